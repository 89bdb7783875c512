/-
  The reader's value, attr.
-/
import Derived.Test.YtnagckdaleafdaaXmF
namespace Go.Proofs.Ytnagckdaleafdaa
open Go.RowKit Go.Nst
set_option maxRecDepth 100000
set_option linter.unusedVariables false
set_option linter.unusedSimpArgs false

theorem ib_mem (c : UInt8) : ∀ l : List UInt8, decide (0 ≤ Lib.indexByte l c) = decide (c ∈ l)
  | [] => by simp [Lib.indexByte]
  | d :: l => by
    have ih := ib_mem c l
    unfold Lib.indexByte
    by_cases h : d = c
    · subst h; simp
    · have h1 : (d == c) = false := by simpa using h
      rw [h1]
      have h2 : (decide (c ∈ d :: l)) = decide (c ∈ l) := by simp [Ne.symm h]
      rw [h2, ← ih]
      by_cases hi : Lib.indexByte l c = -1
      · rw [hi]; rfl
      · have hge : -1 ≤ Lib.indexByte l c := by
          have : ∀ m : List UInt8, -1 ≤ Lib.indexByte m c := by
            intro m
            induction m with
            | nil => simp [Lib.indexByte]
            | cons a m ihm =>
              unfold Lib.indexByte
              split
              · omega
              · split <;> omega
          exact this l
        have h3 : (Lib.indexByte l c == -1) = false := by simpa using hi
        rw [h3]
        simp
        omega
theorem has_one (l : List UInt8) (c : UInt8) (w : World) : Calls Try.prog 57 #[.string ⟨l.toArray⟩, .string ⟨#[c]⟩] w fun e w' => e = .returned (.bool (decide (c ∈ l))) ∧ w' = w := by
  have := Try.strings_Contains_one ⟨l.toArray⟩ c w
  simp only at this
  rw [ib_mem] at this
  exact this
def finV (r : List UInt8 × XS) : List UInt8 × XS := (readL r.1, (r.2.1, r.2.2 || decide ((60 : UInt8) ∈ r.1)))
def cValue (s : XS) : List UInt8 × XS := finV (if Lib.hasPrefix s.1 [34] = true then cUpto [34] (cTake [34] s) else cUpto [39] (cMust [39] (cTake [34] s)))
theorem cTake_len (p : List UInt8) (s : XS) : (cTake p s).1.length ≤ s.1.length := by unfold cTake; split <;> simp
theorem cMust_len (p : List UInt8) (s : XS) : (cMust p s).1.length ≤ s.1.length := by unfold cMust; split <;> simp
theorem cBlank_len (s : XS) : (cBlank s).1.length ≤ s.1.length := dropW_len _ _
theorem cName_len (s : XS) : (cName s).2.1.length ≤ s.1.length ∧ (cName s).1.length ≤ s.1.length := ⟨dropW_len _ _, (List.takeWhile_prefix goB).length_le⟩
theorem cUpto_len (sep : List UInt8) (s : XS) : (cUpto sep s).1.length ≤ s.1.length ∧ (cUpto sep s).2.1.length ≤ s.1.length := by
  unfold cUpto
  split
  · rename_i h
    have := cut_len h
    simp only
    omega
  · simp
/-- what comes behind the quotes -/
theorem value_end (g : Nat) (r : List UInt8 × XS) (w w3 : World) (b : Bool) (h3 : XrB w3 g r.2.1 r.2.2) (hg : w.grownBy w3 (some g)) (hb : b = (r.2.2 || decide ((60 : UInt8) ∈ r.1))) (hM : ML w3) (hl : r.1.length ≤ 100000) :
    Calls Try.prog 37 #[.string ⟨r.1.toArray⟩] (w3.setCell ⟨g, 1, none⟩ (.bool b)) fun e w' => e = .returned (.string ⟨(finV r).1.toArray⟩) ∧ XrB w' g (finV r).2.1 (finV r).2.2 ∧ w.grownBy w' (some g) := by
  have hB : XrB (w3.setCell ⟨g, 1, none⟩ (.bool b)) g (finV r).2.1 (finV r).2.2 := by
    have := Blk.set_ h3 1 (.bool b)
    unfold XrB finV
    rw [← hb]
    simpa using this
  have hgr : w3.grownBy (w3.setCell ⟨g, 1, none⟩ (.bool b)) (some g) := only_setCell (World.grownBy.refl _ _) (.inl rfl) _
  refine (read7_any r.1 _ hl (hM.xr h3 hgr)).mono ?_
  rintro e w' ⟨he, hbel⟩
  exact ⟨he, Blk.below hB hbel (Blk.lt hB), grown_two hg (grown_two hgr (only_of_below hbel _))⟩
set_option maxHeartbeats 2000000 in
theorem value8_any (g : Nat) (s : XS) (w : World) (hB : XrB w g s.1 s.2) (hl : s.1.length ≤ 100000) (hM : ML w) :
    Calls Try.prog 75 #[.pointer (some ⟨g, 0, none⟩)] w (RetX w g (.string ⟨(cValue s).1.toArray⟩) (cValue s).2) := by
  have HC := take8_any g [34] s w hB
  have ht := cTake_len [34] s
  unfold cValue
  cases hh : Lib.hasPrefix s.1 [34] with
  | true =>
    rw [hh] at HC
    have HC := Lib.hid HC
    clear hh
    simp only [if_true]
    generalize cTake [34] s = s1 at *
    have hu := cUpto_len [34] s1
    have HU := Lib.hid (fun (w2 : World) (h : XrB w2 g s1.1 s1.2) (h2 : ML w2) => upto8_any g [34] s1 w2 h (by omega) h2)
    generalize cUpto [34] s1 = r at *
    have HE := Lib.hid (value_end g r w)
    obtain ⟨x, l2, b2⟩ := r
    have hx : x.length ≤ 100000 := by simp only at hu; omega
    simp only at HU HE
    have HB := Lib.hid hB
    have HM := Lib.hid hM
    clear hB hM
    cases b2 with
    | true =>
      go_enter Try.func75, Try.ntmps75
      go_wp2_with fail
      (with_reducible refine (HC.out).mono ?_)
      rintro e w2 ⟨rfl, h1, h2⟩
      have m2 := ML.xr HM.out HB.out h2
      have HU2 := Lib.hid (HU.out w2 h1 m2)
      clear HU
      have H2 := Lib.hid h2
      clear h2
      go_wp2_with fail
      (with_reducible refine (HU2.out).mono ?_)
      rintro e w3 ⟨rfl, h3, h4⟩
      have c1 := Blk.cell h3 1
      simp at c1
      have hfz := Blk.frozen h3
      have H3 := Lib.hid h3
      have m3 := ML.xr m2 h1 h4
      clear h3
      go_wp2_with fail
      (with_reducible refine (HE.out w3 true H3.out (grown_two H2.out h4) rfl m3 hx).mono ?_)
      rintro e w4 ⟨rfl, h5, h6⟩
      go_wp2_with fail
      go_ret
      exact ⟨rfl, h5, h6⟩
    | false =>
      have HH := Lib.hid (fun W => has_one x 60 W)
      have HD : Hid (decide ((60 : UInt8) ∈ x) = (false || decide ((60 : UInt8) ∈ x))) := Lib.hid (by simp)
      generalize decide ((60 : UInt8) ∈ x) = d at *
      go_enter Try.func75, Try.ntmps75
      go_wp2_with fail
      (with_reducible refine (HC.out).mono ?_)
      rintro e w2 ⟨rfl, h1, h2⟩
      have m2 := ML.xr HM.out HB.out h2
      have HU2 := Lib.hid (HU.out w2 h1 m2)
      clear HU
      have H2 := Lib.hid h2
      clear h2
      go_wp2_with fail
      (with_reducible refine (HU2.out).mono ?_)
      rintro e w3 ⟨rfl, h3, h4⟩
      have c1 := Blk.cell h3 1
      simp at c1
      have hfz := Blk.frozen h3
      have H3 := Lib.hid h3
      have m3 := ML.xr m2 h1 h4
      clear h3
      go_wp2_with fail
      (with_reducible refine (HH.out _).mono ?_)
      rintro e w4 ⟨rfl, rfl⟩
      go_wp2_with fail
      (with_reducible refine (HE.out _ d H3.out (grown_two H2.out h4) HD.out m3 hx).mono ?_)
      rintro e w5 ⟨rfl, h5, h6⟩
      go_wp2_with fail
      go_ret
      exact ⟨rfl, h5, h6⟩
  | false =>
    rw [hh] at HC
    have HC := Lib.hid HC
    clear hh
    simp only [Bool.false_eq_true, if_false]
    generalize cTake [34] s = s0 at *
    have hmu := cMust_len [39] s0
    have HMU := Lib.hid (fun (w2 : World) (h : XrB w2 g s0.1 s0.2) => must8_any g [39] s0 w2 h)
    generalize cMust [39] s0 = s1 at *
    have hu := cUpto_len [39] s1
    have HU := Lib.hid (fun (w2 : World) (h : XrB w2 g s1.1 s1.2) (h2 : ML w2) => upto8_any g [39] s1 w2 h (by omega) h2)
    generalize cUpto [39] s1 = r at *
    have HE := Lib.hid (value_end g r w)
    obtain ⟨x, l2, b2⟩ := r
    have hx : x.length ≤ 100000 := by simp only at hu; omega
    simp only at HU HE
    have HB := Lib.hid hB
    have HM := Lib.hid hM
    clear hB hM
    cases b2 with
    | true =>
      go_enter Try.func75, Try.ntmps75
      go_wp2_with fail
      (with_reducible refine (HC.out).mono ?_)
      rintro e w1 ⟨rfl, k1, k2⟩
      have m1 := ML.xr HM.out HB.out k2
      have HMU2 := Lib.hid (HMU.out w1 k1)
      have K1 := Lib.hid k1
      have K2 := Lib.hid k2
      clear HMU k1 k2
      go_wp2_with fail
      (with_reducible refine (HMU2.out).mono ?_)
      rintro e w2 ⟨rfl, h1, h2'⟩
      have m2 := ML.xr m1 K1.out h2'
      have h2 := grown_two K2.out h2'
      have HU2 := Lib.hid (HU.out w2 h1 m2)
      clear HU h2'
      have H2 := Lib.hid h2
      clear h2
      go_wp2_with fail
      (with_reducible refine (HU2.out).mono ?_)
      rintro e w3 ⟨rfl, h3, h4⟩
      have c1 := Blk.cell h3 1
      simp at c1
      have hfz := Blk.frozen h3
      have H3 := Lib.hid h3
      have m3 := ML.xr m2 h1 h4
      clear h3
      go_wp2_with fail
      (with_reducible refine (HE.out w3 true H3.out (grown_two H2.out h4) rfl m3 hx).mono ?_)
      rintro e w4 ⟨rfl, h5, h6⟩
      go_wp2_with fail
      go_ret
      exact ⟨rfl, h5, h6⟩
    | false =>
      have HH := Lib.hid (fun W => has_one x 60 W)
      have HD : Hid (decide ((60 : UInt8) ∈ x) = (false || decide ((60 : UInt8) ∈ x))) := Lib.hid (by simp)
      generalize decide ((60 : UInt8) ∈ x) = d at *
      go_enter Try.func75, Try.ntmps75
      go_wp2_with fail
      (with_reducible refine (HC.out).mono ?_)
      rintro e w1 ⟨rfl, k1, k2⟩
      have m1 := ML.xr HM.out HB.out k2
      have HMU2 := Lib.hid (HMU.out w1 k1)
      have K1 := Lib.hid k1
      have K2 := Lib.hid k2
      clear HMU k1 k2
      go_wp2_with fail
      (with_reducible refine (HMU2.out).mono ?_)
      rintro e w2 ⟨rfl, h1, h2'⟩
      have m2 := ML.xr m1 K1.out h2'
      have h2 := grown_two K2.out h2'
      have HU2 := Lib.hid (HU.out w2 h1 m2)
      clear HU h2'
      have H2 := Lib.hid h2
      clear h2
      go_wp2_with fail
      (with_reducible refine (HU2.out).mono ?_)
      rintro e w3 ⟨rfl, h3, h4⟩
      have c1 := Blk.cell h3 1
      simp at c1
      have hfz := Blk.frozen h3
      have H3 := Lib.hid h3
      have m3 := ML.xr m2 h1 h4
      clear h3
      go_wp2_with fail
      (with_reducible refine (HH.out _).mono ?_)
      rintro e w4 ⟨rfl, rfl⟩
      go_wp2_with fail
      (with_reducible refine (HE.out _ d H3.out (grown_two H2.out h4) HD.out m3 hx).mono ?_)
      rintro e w5 ⟨rfl, h5, h6⟩
      go_wp2_with fail
      go_ret
      exact ⟨rfl, h5, h6⟩
end Go.Proofs.Ytnagckdaleafdaa
