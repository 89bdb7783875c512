/-
  What the reader's methods do, told of the document's: plain Lean.
-/
import Derived.Test.YtnagckdaleafdaaXmK
namespace Go.Proofs.Ytnagckdaleafdaa
open Go.RowKit Go.Nst
set_option maxRecDepth 100000
set_option linter.unusedVariables false
set_option linter.unusedSimpArgs false

theorem cName_some {l n r : List UInt8} (h : nameD l = some (n, r)) : cName (l, false) = (n, (r, false)) := by
  have hh := nameD_len h
  unfold cName
  simp only
  rw [← hh.2.2.2.1, ← hh.2.2.2.2.1, hh.2.2.2.2.2]
  rfl
theorem cName_none {l : List UInt8} (h : nameD l = none) : (cName (l, false)).2.2 = true := by
  unfold nameD at h
  unfold cName
  by_cases hn : nmB (l.takeWhile goB) = true
  · rw [if_pos hn] at h; cases h
  · simp only [Bool.false_or]
    simpa using hn
theorem cMust_bad (p : List UInt8) (s : XS) (h : s.2 = true) : (cMust p s).2 = true := by unfold cMust; split <;> simp [h]
theorem cUpto_bad (p : List UInt8) (s : XS) (h : s.2 = true) : (cUpto p s).2.2 = true := by unfold cUpto; split <;> simp [h]
theorem has_c1 {c d : UInt8} {t : List UInt8} : Lib.hasPrefix (c :: t) [d] = (d == c) := by simp [Lib.hasPrefix, List.isPrefixOf]
theorem cValue_q (q : UInt8) (r : List UInt8) (o : Option (List UInt8 × List UInt8)) (ho : o = if (Lib.cut r [q]).2.2 = true ∧ (60 : UInt8) ∉ (Lib.cut r [q]).1 then some (readL (Lib.cut r [q]).1, (Lib.cut r [q]).2.1) else none) :
    (∀ v b, o = some (v, b) → finV (cUpto [q] (r, false)) = (v, (b, false))) ∧ (o = none → (finV (cUpto [q] (r, false))).2.2 = true) := by
  subst ho
  unfold cUpto finV
  simp only
  by_cases hc : (Lib.cut r [q]).2.2 = true
  · rw [if_pos hc]
    by_cases h6 : (60 : UInt8) ∈ (Lib.cut r [q]).1
    · rw [if_neg (by simp [h6])]
      exact ⟨fun v b h => (by cases h), fun _ => by simp [h6]⟩
    · rw [if_pos ⟨hc, h6⟩]
      refine ⟨fun v b h => ?_, fun h => by cases h⟩
      injection h with h
      injection h with h1 h2
      simp [h1, h2, h6]
  · rw [if_neg hc, if_neg (fun h => hc h.1)]
    exact ⟨fun v b h => (by cases h), fun _ => by simp⟩
theorem cValue_of (l : List UInt8) : (∀ v b, valD l = some (v, b) → cValue (l, false) = (v, (b, false))) ∧ (valD l = none → (cValue (l, false)).2.2 = true) := by
  cases l with
  | nil =>
    refine ⟨fun v b h => (by cases h), fun _ => ?_⟩
    decide
  | cons q r =>
    by_cases h34 : q = 34
    · subst h34
      have := cValue_q 34 r (valD (34 :: r)) (by simp only [valD]; rw [if_pos (.inl trivial)])
      have e : cValue (34 :: r, false) = finV (cUpto [34] (r, false)) := by
        unfold cValue cTake
        simp [has_c1]
      rw [e]
      exact this
    · by_cases h39 : q = 39
      · subst h39
        have := cValue_q 39 r (valD (39 :: r)) (by simp only [valD]; rw [if_pos (.inr trivial)])
        have e : cValue (39 :: r, false) = finV (cUpto [39] (r, false)) := by
          unfold cValue cTake cMust
          simp [has_c1]
        rw [e]
        exact this
      · have e : valD (q :: r) = none := by simp only [valD]; rw [if_neg (by rintro (h | h); (· exact h34 h); (· exact h39 h))]
        rw [e]
        refine ⟨fun v b h => (by cases h), fun _ => ?_⟩
        have h1 : Lib.hasPrefix (q :: r) [34] = false := by rw [has_c1]; simpa using Ne.symm h34
        have h2 : Lib.hasPrefix (q :: r) [39] = false := by rw [has_c1]; simpa using Ne.symm h39
        unfold cValue
        rw [if_neg (by rw [h1]; simp)]
        unfold finV
        have : (cUpto [39] (cMust [39] (cTake [34] (q :: r, false)))).2.2 = true := by
          refine cUpto_bad _ _ ?_
          unfold cMust cTake
          simp [h1, h2]
        rw [this]
        rfl
theorem cAttr_of (l : List UInt8) : (∀ a b, attrD l = some (a, b) → cAttr (l, false) = (a, (b, false))) ∧ (attrD l = none → (cAttr (l, false)).2.2 = true) := by
  unfold attrD
  rcases hn : nameD l with _ | ⟨n, r⟩
  · refine ⟨fun a b h => (by cases h), fun _ => ?_⟩
    have h3 : (cAttr3 (l, false)).2 = true := by
      unfold cAttr3 cBlank
      refine cMust_bad _ _ ?_
      exact cName_none hn
    unfold cAttr
    rw [if_pos h3]
    exact h3
  · have hc := cName_some hn
    simp only
    rcases hr : r.dropWhile blkB with _ | ⟨c, t⟩
    · refine ⟨fun a b h => (by cases h), fun _ => ?_⟩
      have h3 : (cAttr3 (l, false)).2 = true := by
        unfold cAttr3
        rw [hc]
        unfold cBlank
        simp only
        rw [hr]
        rfl
      unfold cAttr
      rw [if_pos h3]
      exact h3
    · simp only
      by_cases h61 : c = 61
      · subst h61
        rw [if_pos rfl]
        have h3 : cAttr3 (l, false) = (t.dropWhile blkB, false) := by
          unfold cAttr3
          rw [hc]
          unfold cBlank
          simp only
          rw [hr]
          simp [cMust, has_c1]
        have hv := cValue_of (t.dropWhile blkB)
        unfold cAttr
        rw [h3, if_neg (by simp), hc]
        rcases hvv : valD (t.dropWhile blkB) with _ | ⟨v, b'⟩
        · exact ⟨fun a b h => (by cases h), fun _ => hv.2 hvv⟩
        · rw [hv.1 v b' hvv]
          refine ⟨fun a b h => ?_, fun h => by cases h⟩
          injection h with h
          injection h with h1 h2
          rw [← h1, ← h2]
      · rw [if_neg h61]
        refine ⟨fun a b h => (by cases h), fun _ => ?_⟩
        have h3 : (cAttr3 (l, false)).2 = true := by
          unfold cAttr3
          rw [hc]
          unfold cBlank
          simp only
          rw [hr]
          have : Lib.hasPrefix (c :: t) [61] = false := by rw [has_c1]; simpa using Ne.symm h61
          simp [cMust, this]
        unfold cAttr
        rw [if_pos h3]
        exact h3
end Go.Proofs.Ytnagckdaleafdaa
