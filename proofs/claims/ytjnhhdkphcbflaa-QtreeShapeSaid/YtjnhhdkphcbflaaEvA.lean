/-
  Texts of events: label, tag, title, link, query; IDs, moments: the code's and the reference's.
-/
import Derived.Test.YtjnhhdkphcbflaaWrd
import Derived.Test.YtjnhhdkphcbflaaDat
import Derived.Test.YtjnhhdkphcbflaaUt2
import Derived.BigQuiet
namespace Go.Proofs.Ytjnhhdkphcbflaa
open Go.RowKit Go.Nst
set_option maxRecDepth 100000
set_option linter.unusedVariables false
set_option linter.unusedSimpArgs false

def textB (l : List UInt8) (most : Int) : Bool := decide ((l.length : Int) ≤ most) && (rightL l && (cleanT l == l))
def neB (l : List UInt8) : Bool := !l.isEmpty
def labelB (l : List UInt8) : Bool := neB l && textB l 64
def tagB (l : List UInt8) : Bool := labelB l && wordB l
def titleB (l : List UInt8) : Bool := textB l 256
def linkB (l : List UInt8) : Bool := textB l 512
def placeB (l : List UInt8) : Bool := neB l && linkB l
def queryB (l : List UInt8) : Bool := neB l && textB l 512
def idB (n : Int) : Bool := decide (1 ≤ n) && decide (n ≤ 1048576)

theorem sameS_any (A A2 : Option Addr) (n c n2 c2 : Nat) (l l2 : List (List UInt8)) (w : World) (h1 : Ss w A n l) (h2 : Ss w A2 n2 l2) (hn : n ≤ 1000000) (hn2 : n2 ≤ 1000000) :
    Calls Try.prog 58 #[.slice A n c, .slice A2 n2 c2] w fun e w' => e = .returned (.bool (l == l2)) ∧ Below w.heap.size w w' := by
  have e1 := h1.len
  have e2 := h2.len
  by_cases hnn : n = n2
  · subst hnn
    go_enter Try.func58, Try.ntmps58
    go_wp2_with fail
    go_loopw [5] (fun i wr => ∃ k q : Nat, i = .int .i64 (k : Int) ∧ k ≤ n ∧ wr = w.drewN q ∧ Hid (l.take k = l2.take k)) (fun i _ => n - (intOf i).toNat)
    case atStart => exact ⟨0, 0, rfl, by omega, rfl, Lib.hid rfl⟩
    case round =>
      obtain ⟨k, q, rfl, hk, rfl, HT⟩ := hrel
      by_cases hlt : k < n
      · obtain ⟨z, b, off, rfl, hz, hb, hc⟩ := Ss.at h1 hlt
        obtain ⟨z2, b2, off2, rfl, hz2, hb2, hc2⟩ := Ss.at h2 hlt
        have hcq : (w.drewN q).cell? ⟨b, off + k, none⟩ = some (.string ⟨z.toArray⟩) := hc
        have hcq2 : (w.drewN q).cell? ⟨b2, off2 + k, none⟩ = some (.string ⟨z2.toArray⟩) := hc2
        by_cases hzz : z = z2
        · subst hzz
          have HN : Hid (l.take (k + 1) = l2.take (k + 1)) := Lib.hid (by rw [List.take_add_one, List.take_add_one, HT.out, hz.out, hz2.out])
          go_wp2_with fail
          go_quiet (fail)
          go_wp2_with fail
          go_roundw
          case rel => exact ⟨k + 1, q + nq, by go_num, by omega, rfl, HN⟩
          case measure => simp [intOf]; omega
        · have HN : Hid ((l == l2) = false) := Lib.hid (by
            rw [beq_eq_false_iff_ne]
            intro e
            subst e
            have h3 := hz.out
            rw [hz2.out] at h3
            injection h3 with h3
            exact hzz h3.symm)
          have d1 : (z == z2) = false := by simpa using hzz
          have d2 : (z != z2) = true := by simpa using hzz
          go_wp2_with fail
          go_quiet (fail)
          go_wp2_with fail
          go_ret
          rw [HN.out]
          exact ⟨rfl, Nst.below_drewN (Nst.below_drewN (Below.refl _ _) q) nq⟩
      · have HN : Hid ((l == l2) = true) := Lib.hid (by
          have h3 := HT.out
          rw [List.take_of_length_le (by omega), List.take_of_length_le (by omega)] at h3
          rw [beq_iff_eq]
          exact h3)
        go_wp2_with fail
        go_ret
        rw [HN.out]
        exact ⟨rfl, Nst.below_drewN (Below.refl _ _) q⟩
  · have hne : (l == l2) = false := by
      rw [beq_eq_false_iff_ne]
      intro e
      exact hnn (by rw [← e1, ← e2, e])
    rw [hne]
    have d1 : ((n : Int) != (n2 : Int)) = true := by simp; omega
    clear hne
    go_enter Try.func58, Try.ntmps58
    go_wp2_with fail
    go_ret
    exact ⟨rfl, Below.refl _ _⟩

set_option maxHeartbeats 1000000 in
theorem text14_any (l : List UInt8) (most : Int) (w : World) (hS : l.length ≤ 20000) : Calls Try.prog 63 #[.string ⟨l.toArray⟩, .int .i64 most] w fun e w' => e = .returned (.bool (textB l most)) ∧ Below w.heap.size w w' := by
  have HB : Hid (textB l most = (decide ((l.length : Int) ≤ most) && (rightL l && (cleanT l == l)))) := rfl
  have HR := Lib.hid (fun W => right_any ⟨l.toArray⟩ W (by rw [size_of]; omega))
  rw [bl_of] at HR
  have HC := Lib.hid (fun W => clean_any ⟨l.toArray⟩ W (by rw [size_of]; omega))
  rw [bl_of] at HC
  generalize cleanT l = cl at *
  by_cases h1 : (l.length : Int) ≤ most
  · have d1 : decide ((l.length : Int) ≤ most) = true := by simpa using h1
    rw [d1, Bool.true_and] at HB
    cases hr : rightL l with
    | false =>
      rw [hr] at HR HB
      clear hr
      go_enter Try.func63, Try.ntmps63
      go_wp2_with fail
      (with_reducible refine (HR.out _).mono ?_)
      rintro e w1 ⟨rfl, B1⟩
      go_wp2_with fail
      go_ret
      exact ⟨by rw [HB.out]; rfl, B1⟩
    | true =>
      rw [hr, Bool.true_and] at HB
      rw [hr] at HR
      clear hr
      go_enter Try.func63, Try.ntmps63
      go_wp2_with fail
      (with_reducible refine (HR.out _).mono ?_)
      rintro e w1 ⟨rfl, B1⟩
      go_wp2_with fail
      (with_reducible refine (HC.out _).mono ?_)
      rintro e w2 ⟨rfl, hb⟩
      go_wp2_with fail
      go_ret
      exact ⟨by rw [HB.out]; rfl, bel_step B1 hb⟩
  · have d1 : decide ((l.length : Int) ≤ most) = false := by simpa using h1
    rw [d1, Bool.false_and] at HB
    go_enter Try.func63, Try.ntmps63
    go_wp2_with fail
    go_ret
    exact ⟨by rw [HB.out]; rfl, Below.refl _ _⟩
set_option maxHeartbeats 1000000 in
theorem refText14_any (l : List UInt8) (most : Int) (w : World) (hS : l.length ≤ 20000) : Calls Try.prog 69 #[.string ⟨l.toArray⟩, .int .i64 most] w fun e w' => e = .returned (.bool (textB l most)) ∧ Below w.heap.size w w' := by
  have HB : Hid (textB l most = (decide ((l.length : Int) ≤ most) && (rightL l && (cleanT l == l)))) := rfl
  have HR := Lib.hid (fun W => refRight_any ⟨l.toArray⟩ W (by rw [size_of]; omega))
  rw [bl_of] at HR
  have HC := Lib.hid (fun W => refClean_any ⟨l.toArray⟩ W (by rw [size_of]; omega))
  rw [bl_of] at HC
  generalize cleanT l = cl at *
  by_cases h1 : (l.length : Int) ≤ most
  · have d1 : decide ((l.length : Int) ≤ most) = true := by simpa using h1
    rw [d1, Bool.true_and] at HB
    cases hr : rightL l with
    | false =>
      rw [hr] at HR HB
      clear hr
      go_enter Try.func69, Try.ntmps69
      go_wp2_with fail
      (with_reducible refine (HR.out _).mono ?_)
      rintro e w1 ⟨rfl, rfl⟩
      have B1 := Below.refl w.heap.size w
      go_wp2_with fail
      go_ret
      exact ⟨by rw [HB.out]; rfl, B1⟩
    | true =>
      rw [hr, Bool.true_and] at HB
      rw [hr] at HR
      clear hr
      go_enter Try.func69, Try.ntmps69
      go_wp2_with fail
      (with_reducible refine (HR.out _).mono ?_)
      rintro e w1 ⟨rfl, rfl⟩
      have B1 := Below.refl w.heap.size w
      go_wp2_with fail
      (with_reducible refine (HC.out _).mono ?_)
      rintro e w2 ⟨rfl, hb⟩
      go_wp2_with fail
      go_ret
      exact ⟨by rw [HB.out]; rfl, bel_step B1 hb⟩
  · have d1 : decide ((l.length : Int) ≤ most) = false := by simpa using h1
    rw [d1, Bool.false_and] at HB
    go_enter Try.func69, Try.ntmps69
    go_wp2_with fail
    go_ret
    exact ⟨by rw [HB.out]; rfl, Below.refl _ _⟩
theorem label_any (l : List UInt8) (w : World) (hS : l.length ≤ 20000) : Calls Try.prog 55 #[.string ⟨l.toArray⟩] w fun e w' => e = .returned (.bool (labelB l)) ∧ Below w.heap.size w w' := by
  have HB : Hid (labelB l = (neB l && textB l 64)) := rfl
  cases l with
  | nil =>
    go_enter Try.func55, Try.ntmps55
    go_wp2_with fail
    go_ret
    exact ⟨rfl, Below.refl _ _⟩
  | cons a t =>
    rw [show neB (a :: t) = true from rfl, Bool.true_and] at HB
    have HT := Lib.hid (fun W => text14_any (a :: t) 64 W hS)
    generalize hl : a :: t = l at *
    have hne1 : l.isEmpty = false := by rw [← hl]; rfl
    have hne2 : ¬ l = [] := by rw [← hl]; simp
    clear hl
    generalize textB l 64 = b at *
    go_enter Try.func55, Try.ntmps55
    go_wp2_with fail
    (with_reducible refine (HT.out _).mono ?_)
    rintro e w1 ⟨rfl, hb⟩
    go_wp2_with fail
    go_ret
    exact ⟨by rw [HB.out]; rfl, hb⟩
theorem refLabel_any (l : List UInt8) (w : World) (hS : l.length ≤ 20000) : Calls Try.prog 57 #[.string ⟨l.toArray⟩] w fun e w' => e = .returned (.bool (labelB l)) ∧ Below w.heap.size w w' := by
  have HB : Hid (labelB l = (neB l && textB l 64)) := rfl
  cases l with
  | nil =>
    go_enter Try.func57, Try.ntmps57
    go_wp2_with fail
    go_ret
    exact ⟨rfl, Below.refl _ _⟩
  | cons a t =>
    rw [show neB (a :: t) = true from rfl, Bool.true_and] at HB
    have HT := Lib.hid (fun W => refText14_any (a :: t) 64 W hS)
    generalize hl : a :: t = l at *
    have hne1 : l.isEmpty = false := by rw [← hl]; rfl
    have hne2 : ¬ l = [] := by rw [← hl]; simp
    clear hl
    generalize textB l 64 = b at *
    go_enter Try.func57, Try.ntmps57
    go_wp2_with fail
    (with_reducible refine (HT.out _).mono ?_)
    rintro e w1 ⟨rfl, hb⟩
    go_wp2_with fail
    go_ret
    exact ⟨by rw [HB.out]; rfl, hb⟩
theorem wordsL_len (l : List UInt8) : (wordsL l).length ≤ l.length := by
  unfold wordsL wordsR
  rw [List.length_map, List.length_map]
  have h1 := (runs_len ((runesI l).map foldC) []).2
  rw [List.length_map] at h1
  have h2 := runesI_le l
  simp at h1
  omega
theorem tag_any (l : List UInt8) (w : World) (hS : l.length ≤ 20000) : Calls Try.prog 46 #[.string ⟨l.toArray⟩] w fun e w' => e = .returned (.bool (tagB l)) ∧ Below w.heap.size w w' := by
  have HB : Hid (tagB l = (labelB l && wordB l)) := rfl
  have HL := Lib.hid (label_any l w hS)
  have HI := Lib.hid (fun W => isWord_any l W (by omega))
  generalize wordB l = wb at *
  cases hl : labelB l with
  | true =>
    rw [hl] at HL
    rw [hl, Bool.true_and] at HB
    clear hl
    go_enter Try.func46, Try.ntmps46
    go_wp2_with fail
    (with_reducible refine (HL.out).mono ?_)
    rintro e w1 ⟨rfl, B1⟩
    go_wp2_with fail
    (with_reducible refine (HI.out _).mono ?_)
    rintro e w2 ⟨rfl, hb⟩
    go_wp2_with fail
    go_ret
    exact ⟨by rw [HB.out]; rfl, bel_step B1 hb⟩
  | false =>
    rw [hl] at HL
    rw [hl, Bool.false_and] at HB
    clear hl
    go_enter Try.func46, Try.ntmps46
    go_wp2_with fail
    (with_reducible refine (HL.out).mono ?_)
    rintro e w1 ⟨rfl, B1⟩
    go_wp2_with fail
    go_ret
    exact ⟨by rw [HB.out]; rfl, B1⟩
theorem refTag_any (l : List UInt8) (w : World) (hS : l.length ≤ 20000) : Calls Try.prog 49 #[.string ⟨l.toArray⟩] w fun e w' => e = .returned (.bool (tagB l)) ∧ Below w.heap.size w w' := by
  have HB : Hid (tagB l = (labelB l && (wordsL l == [l]))) := rfl
  have HL := Lib.hid (refLabel_any l w hS)
  have HW := Lib.hid (fun W => refWords_any l W (by omega))
  have hwl := wordsL_len l
  generalize wordsL l = ws at *
  cases hl : labelB l with
  | true =>
    rw [hl] at HL
    rw [hl, Bool.true_and] at HB
    clear hl
    go_enter Try.func49, Try.ntmps49
    go_wp2_with fail
    (with_reducible refine (HL.out).mono ?_)
    rintro e w1 ⟨rfl, B1⟩
    go_wp2_with fail
    (with_reducible refine (HW.out _).mono ?_)
    rintro e w2 ⟨A2, n2, c2, rfl, ho2, hb⟩
    have B2 := bel_step B1 hb
    have q2 := ho2.ss
    have hn2 := q2.len
    clear hb ho2
    have hx := Ss.const w2 [l] #[.string ⟨l.toArray⟩] 9 (0, 0) 1 rfl rfl
    have q2' := q2.below (bel_alloc (Below.refl _ _) (.cells #[.string ⟨l.toArray⟩] 9))
    go_wp2_with fail
    (with_reducible refine (sameS_any A2 _ n2 c2 1 1 ws [l] _ q2' hx (by omega) (by omega)).mono ?_)
    rintro e w3 ⟨rfl, hb3⟩
    go_wp2_with fail
    go_ret
    exact ⟨by rw [HB.out]; rfl, bel_step (bel_alloc B2 _) hb3⟩
  | false =>
    rw [hl] at HL
    rw [hl, Bool.false_and] at HB
    clear hl
    go_enter Try.func49, Try.ntmps49
    go_wp2_with fail
    (with_reducible refine (HL.out).mono ?_)
    rintro e w1 ⟨rfl, B1⟩
    go_wp2_with fail
    go_ret
    exact ⟨by rw [HB.out]; rfl, B1⟩
end Go.Proofs.Ytjnhhdkphcbflaa
