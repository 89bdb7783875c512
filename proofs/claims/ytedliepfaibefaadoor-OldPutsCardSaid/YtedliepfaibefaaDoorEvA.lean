/-
  Texts of events: label, tag, title, link, query; IDs, moments: the code's and the reference's.
-/
import Derived.Test.YtedliepfaibefaaDoorWrd
import Derived.Test.YtedliepfaibefaaDoorDat
import Derived.Test.YtedliepfaibefaaDoorUt2
import Derived.BigQuiet
namespace Go.Proofs.YtedliepfaibefaaDoor
open Go.RowKit Go.Nst
set_option maxRecDepth 100000
set_option linter.unusedVariables false
set_option linter.unusedSimpArgs false

def textB (l : List UInt8) (most : Int) : Bool := decide ((l.length : Int) ≤ most) && (rightL l && (cleanT l == l))
def neB (l : List UInt8) : Bool := !l.isEmpty
def labelB (l : List UInt8) : Bool := neB l && textB l 64
def tagB (l : List UInt8) : Bool := labelB l && wordB l
def titleB (l : List UInt8) : Bool := textB l 256
def linkB (l : List UInt8) : Bool := textB l 512
def placeB (l : List UInt8) : Bool := neB l && linkB l
def queryB (l : List UInt8) : Bool := neB l && textB l 512
def idB (n : Int) : Bool := decide (1 ≤ n) && decide (n ≤ 1048576)

set_option maxHeartbeats 1000000 in
theorem text14_any (l : List UInt8) (most : Int) (w : World) (hS : l.length ≤ 20000) : Calls Tryd.prog 54 #[.string ⟨l.toArray⟩, .int .i64 most] w fun e w' => e = .returned (.bool (textB l most)) ∧ Below w.heap.size w w' := by
  have HB : Hid (textB l most = (decide ((l.length : Int) ≤ most) && (rightL l && (cleanT l == l)))) := rfl
  have HR := Lib.hid (fun W => right_any ⟨l.toArray⟩ W (by rw [size_of]; omega))
  rw [bl_of] at HR
  have HC := Lib.hid (fun W => clean_any ⟨l.toArray⟩ W (by rw [size_of]; omega))
  rw [bl_of] at HC
  generalize cleanT l = cl at *
  by_cases h1 : (l.length : Int) ≤ most
  · have d1 : decide ((l.length : Int) ≤ most) = true := by simpa using h1
    rw [d1, Bool.true_and] at HB
    cases hr : rightL l with
    | false =>
      rw [hr] at HR HB
      clear hr
      go_enter Tryd.func54, Tryd.ntmps54
      go_wp2_with fail
      (with_reducible refine (HR.out _).mono ?_)
      rintro e w1 ⟨rfl, B1⟩
      go_wp2_with fail
      go_ret
      exact ⟨by rw [HB.out]; rfl, B1⟩
    | true =>
      rw [hr, Bool.true_and] at HB
      rw [hr] at HR
      clear hr
      go_enter Tryd.func54, Tryd.ntmps54
      go_wp2_with fail
      (with_reducible refine (HR.out _).mono ?_)
      rintro e w1 ⟨rfl, B1⟩
      go_wp2_with fail
      (with_reducible refine (HC.out _).mono ?_)
      rintro e w2 ⟨rfl, hb⟩
      go_wp2_with fail
      go_ret
      exact ⟨by rw [HB.out]; rfl, bel_step B1 hb⟩
  · have d1 : decide ((l.length : Int) ≤ most) = false := by simpa using h1
    rw [d1, Bool.false_and] at HB
    go_enter Tryd.func54, Tryd.ntmps54
    go_wp2_with fail
    go_ret
    exact ⟨by rw [HB.out]; rfl, Below.refl _ _⟩
theorem label_any (l : List UInt8) (w : World) (hS : l.length ≤ 20000) : Calls Tryd.prog 47 #[.string ⟨l.toArray⟩] w fun e w' => e = .returned (.bool (labelB l)) ∧ Below w.heap.size w w' := by
  have HB : Hid (labelB l = (neB l && textB l 64)) := rfl
  cases l with
  | nil =>
    go_enter Tryd.func47, Tryd.ntmps47
    go_wp2_with fail
    go_ret
    exact ⟨rfl, Below.refl _ _⟩
  | cons a t =>
    rw [show neB (a :: t) = true from rfl, Bool.true_and] at HB
    have HT := Lib.hid (fun W => text14_any (a :: t) 64 W hS)
    generalize hl : a :: t = l at *
    have hne1 : l.isEmpty = false := by rw [← hl]; rfl
    have hne2 : ¬ l = [] := by rw [← hl]; simp
    clear hl
    generalize textB l 64 = b at *
    go_enter Tryd.func47, Tryd.ntmps47
    go_wp2_with fail
    (with_reducible refine (HT.out _).mono ?_)
    rintro e w1 ⟨rfl, hb⟩
    go_wp2_with fail
    go_ret
    exact ⟨by rw [HB.out]; rfl, hb⟩
theorem title_any (l : List UInt8) (w : World) (hS : l.length ≤ 20000) : Calls Tryd.prog 49 #[.string ⟨l.toArray⟩] w fun e w' => e = .returned (.bool (titleB l)) ∧ Below w.heap.size w w' := by
  have HT := Lib.hid (fun W => text14_any l 256 W hS)
  have HB : Hid (titleB l = textB l 256) := rfl
  generalize textB l 256 = b at *
  go_enter Tryd.func49, Tryd.ntmps49
  go_wp2_with fail
  (with_reducible refine (HT.out _).mono ?_)
  rintro e w1 ⟨rfl, hb⟩
  go_wp2_with fail
  go_ret
  exact ⟨by rw [HB.out]; rfl, hb⟩
theorem link_any (l : List UInt8) (w : World) (hS : l.length ≤ 20000) : Calls Tryd.prog 51 #[.string ⟨l.toArray⟩] w fun e w' => e = .returned (.bool (linkB l)) ∧ Below w.heap.size w w' := by
  have HT := Lib.hid (fun W => text14_any l 512 W hS)
  have HB : Hid (linkB l = textB l 512) := rfl
  generalize textB l 512 = b at *
  go_enter Tryd.func51, Tryd.ntmps51
  go_wp2_with fail
  (with_reducible refine (HT.out _).mono ?_)
  rintro e w1 ⟨rfl, hb⟩
  go_wp2_with fail
  go_ret
  exact ⟨by rw [HB.out]; rfl, hb⟩
theorem query_any (l : List UInt8) (w : World) (hS : l.length ≤ 20000) : Calls Tryd.prog 53 #[.string ⟨l.toArray⟩] w fun e w' => e = .returned (.bool (queryB l)) ∧ Below w.heap.size w w' := by
  have HB : Hid (queryB l = (neB l && textB l 512)) := rfl
  cases l with
  | nil =>
    go_enter Tryd.func53, Tryd.ntmps53
    go_wp2_with fail
    go_ret
    exact ⟨rfl, Below.refl _ _⟩
  | cons a t =>
    rw [show neB (a :: t) = true from rfl, Bool.true_and] at HB
    have HT := Lib.hid (fun W => text14_any (a :: t) 512 W hS)
    generalize hl : a :: t = l at *
    have hne1 : l.isEmpty = false := by rw [← hl]; rfl
    have hne2 : ¬ l = [] := by rw [← hl]; simp
    clear hl
    generalize textB l 512 = b at *
    go_enter Tryd.func53, Tryd.ntmps53
    go_wp2_with fail
    (with_reducible refine (HT.out _).mono ?_)
    rintro e w1 ⟨rfl, hb⟩
    go_wp2_with fail
    go_ret
    exact ⟨by rw [HB.out]; rfl, hb⟩
theorem place_any (l : List UInt8) (w : World) (hS : l.length ≤ 20000) : Calls Tryd.prog 48 #[.string ⟨l.toArray⟩] w fun e w' => e = .returned (.bool (placeB l)) ∧ Below w.heap.size w w' := by
  have HB : Hid (placeB l = (neB l && linkB l)) := rfl
  cases l with
  | nil =>
    go_enter Tryd.func48, Tryd.ntmps48
    go_wp2_with fail
    go_ret
    exact ⟨rfl, Below.refl _ _⟩
  | cons a t =>
    rw [show neB (a :: t) = true from rfl, Bool.true_and] at HB
    have HT := Lib.hid (fun W => link_any (a :: t) W hS)
    generalize hl : a :: t = l at *
    have hne1 : l.isEmpty = false := by rw [← hl]; rfl
    have hne2 : ¬ l = [] := by rw [← hl]; simp
    clear hl
    generalize linkB l = b at *
    go_enter Tryd.func48, Tryd.ntmps48
    go_wp2_with fail
    (with_reducible refine (HT.out _).mono ?_)
    rintro e w1 ⟨rfl, hb⟩
    go_wp2_with fail
    go_ret
    exact ⟨by rw [HB.out]; rfl, hb⟩
theorem id14_any (n : Int) (w : World) : Calls Tryd.prog 46 #[.int .i64 n] w fun e w' => e = .returned (.bool (idB n)) ∧ w = w' := by
  have HB : Hid (idB n = (decide (1 ≤ n) && decide (n ≤ 1048576))) := rfl
  by_cases h1 : 1 ≤ n
  · have d1 : decide (1 ≤ n) = true := by simpa using h1
    rw [d1, Bool.true_and] at HB
    go_enter Tryd.func46, Tryd.ntmps46
    go_wp2_with fail
    go_ret
    exact ⟨by rw [HB.out]; rfl, rfl⟩
  · have d1 : decide (1 ≤ n) = false := by simpa using h1
    rw [d1, Bool.false_and] at HB
    go_enter Tryd.func46, Tryd.ntmps46
    go_wp2_with fail
    go_ret
    exact ⟨by rw [HB.out]; rfl, rfl⟩
theorem moment14_any (n : Int) (w : World) : Calls Tryd.prog 50 #[.int .i64 n] w fun e w' => e = .returned (.bool (mayM n)) ∧ Below w.heap.size w w' := by
  cases h : mayM n with
  | true =>
    have HO := Lib.hid (of_yes n w h)
    clear h
    generalize ofD n = d at *
    simp only [Dt.val, Dt.cells] at HO
    go_enter Tryd.func50, Tryd.ntmps50
    go_wp2_with fail
    (with_reducible refine (HO.out).mono ?_)
    rintro e w1 ⟨rfl, hb⟩
    go_wp2_with fail
    go_ret
    exact ⟨rfl, bel_alloc hb _⟩
  | false =>
    have HO := Lib.hid (of_no n w h)
    clear h
    simp only [Dt.val, Dt.cells, Dt.zero] at HO
    go_enter Tryd.func50, Tryd.ntmps50
    go_wp2_with fail
    (with_reducible refine (HO.out).mono ?_)
    rintro e w1 ⟨rfl, hb⟩
    go_wp2_with fail
    go_ret
    exact ⟨rfl, bel_alloc hb _⟩
theorem wordsL_len (l : List UInt8) : (wordsL l).length ≤ l.length := by
  unfold wordsL wordsR
  rw [List.length_map, List.length_map]
  have h1 := (runs_len ((runesI l).map foldC) []).2
  rw [List.length_map] at h1
  have h2 := runesI_le l
  simp at h1
  omega
theorem tag_any (l : List UInt8) (w : World) (hS : l.length ≤ 20000) : Calls Tryd.prog 52 #[.string ⟨l.toArray⟩] w fun e w' => e = .returned (.bool (tagB l)) ∧ Below w.heap.size w w' := by
  have HB : Hid (tagB l = (labelB l && wordB l)) := rfl
  have HL := Lib.hid (label_any l w hS)
  have HI := Lib.hid (fun W => isWord_any l W (by omega))
  generalize wordB l = wb at *
  cases hl : labelB l with
  | true =>
    rw [hl] at HL
    rw [hl, Bool.true_and] at HB
    clear hl
    go_enter Tryd.func52, Tryd.ntmps52
    go_wp2_with fail
    (with_reducible refine (HL.out).mono ?_)
    rintro e w1 ⟨rfl, B1⟩
    go_wp2_with fail
    (with_reducible refine (HI.out _).mono ?_)
    rintro e w2 ⟨rfl, hb⟩
    go_wp2_with fail
    go_ret
    exact ⟨by rw [HB.out]; rfl, bel_step B1 hb⟩
  | false =>
    rw [hl] at HL
    rw [hl, Bool.false_and] at HB
    clear hl
    go_enter Tryd.func52, Tryd.ntmps52
    go_wp2_with fail
    (with_reducible refine (HL.out).mono ?_)
    rintro e w1 ⟨rfl, B1⟩
    go_wp2_with fail
    go_ret
    exact ⟨by rw [HB.out]; rfl, B1⟩
end Go.Proofs.YtedliepfaibefaaDoor
