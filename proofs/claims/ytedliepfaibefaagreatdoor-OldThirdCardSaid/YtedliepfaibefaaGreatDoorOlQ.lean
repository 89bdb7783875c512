/-
  The plain law of lifting: a text, clean, cut, clean, is short; what anything is lifted to may be in its format.
-/
import Derived.Test.YtedliepfaibefaaGreatDoorOlC
import Derived.Test.YtedliepfaibefaaGreatDoorOlJ
namespace Go.Proofs.YtedliepfaibefaaGreatDoor
open Go.RowKit Go.Nst
set_option maxRecDepth 100000
set_option linter.unusedVariables false
set_option linter.unusedSimpArgs false

theorem enc_pos (r : Int) : 1 ≤ (Lib.encodeRune r).length := by
  have := enc_ne r []
  rw [List.append_nil] at this
  exact List.length_pos_iff.2 this
theorem clean_short (l : List Int) : (putR (cleanF l).1).length + (if (cleanF l).2 then 1 else 0) ≤ (putR l).length := by
  suffices ∀ (n : Nat) (l : List Int), l.length = n → (putR (cleanF l).1).length + (if (cleanF l).2 then 1 else 0) ≤ (putR l).length from this _ l rfl
  intro n
  induction n with
  | zero => intro l h; obtain rfl : l = [] := List.eq_nil_of_length_eq_zero h; simp [cleanF, putR]
  | succ n ih =>
    intro l h
    have hne : l ≠ [] := by intro e; subst e; simp at h
    obtain ⟨t, c, rfl⟩ : ∃ t c, l = t ++ [c] := ⟨l.dropLast, l.getLast hne, (List.dropLast_concat_getLast hne).symm⟩
    have h1 := ih t (by simpa using h)
    have h2 := enc_pos c
    have h3 : (Lib.encodeRune 32).length = 1 := by decide
    rw [cleanF_snoc, putR_snoc, List.length_append]
    generalize cleanF t = st at *
    obtain ⟨out, wait⟩ := st
    simp only at h1
    unfold cleanS
    simp only
    by_cases b1 : blankB c = true
    · rw [if_pos b1]
      simp only
      have : (if decide (0 < out.length) = true then 1 else 0) ≤ 1 := by split <;> omega
      omega
    · rw [if_neg b1]
      by_cases b2 : ctrlB c = true
      · rw [if_pos b2]
        simp only
        omega
      · rw [if_neg b2]
        cases wait with
        | false =>
          rw [if_neg (by decide)]
          simp only [putR_snoc, List.length_append, Bool.false_eq_true, if_false] at h1 ⊢
          omega
        | true =>
          rw [if_pos rfl]
          simp only [putR_snoc, List.length_append, Bool.false_eq_true, if_false, if_true] at h1 ⊢
          omega
theorem cut_put (n : Int) : ∀ (rs : List Int) (m : Int), ∃ k, cutT (putR rs) m = putR (rs.take k)
  | [], m => ⟨0, by simp [cutT, putR]⟩
  | r :: t, m => by
    obtain ⟨k, hk⟩ := cut_put n t (m - (Lib.encodeRune r).length)
    unfold cutT at hk ⊢
    rw [putR_cons, cutL_step _ _ (enc_ne _ _), first_enc]
    simp only [List.drop_left]
    by_cases h : (((Lib.encodeRune r).length : Nat) : Int) ≤ m
    · rw [if_pos h]
      refine ⟨k + 1, ?_⟩
      rw [List.take_succ_cons, putR_cons, ← hk, List.take_append]
      simp
      rw [List.take_of_length_le (by omega)]
    · rw [if_neg h]
      exact ⟨0, by simp [putR]⟩
theorem shortT_len (l : List UInt8) (n : Int) (hn : 0 ≤ n) : ((shortT l n).length : Int) ≤ n := by
  unfold shortT
  have h0 : Okr (cleanR (runesI l)) := clean_ok _ (runes_ok l)
  obtain ⟨k, hk⟩ := cut_put 0 (cleanR (runesI l)) n
  have h1 : ((cutT (cleanT l) n).length : Int) ≤ n := by
    unfold cutT
    have := (cutL_le (cleanT l) n).2.1 hn
    rw [List.length_take]
    omega
  have h2 : cutT (cleanT l) n = putR ((cleanR (runesI l)).take k) := hk
  have h3 : Okr ((cleanR (runesI l)).take k) := fun r hr => h0 r (List.mem_of_mem_take hr)
  have h4 : cleanT (cutT (cleanT l) n) = putR (cleanR ((cleanR (runesI l)).take k)) := by rw [h2]; unfold cleanT; rw [runes_put_ok _ h3]
  have h5 := clean_short ((cleanR (runesI l)).take k)
  rw [h4]
  rw [h2] at h1
  have h6 : (putR (cleanR ((cleanR (runesI l)).take k))).length = (putR (cleanF ((cleanR (runesI l)).take k)).1).length := rfl
  omega
theorem word_len {l x : List UInt8} (h : x ∈ wordsL l) : x.length ≤ 128 := by
  unfold wordsL wordsR at h
  simp only [List.mem_map, List.map_map, Function.comp] at h
  obtain ⟨r, _, rfl⟩ := h
  have := putR_len (r.take 32)
  rw [List.length_take] at this
  omega
def secondO (o : Ol) : List Ol := if o.ok then (if o.v = 1 then oneO o.k o.a o.b o.n o.s o.t else [o]) else []
theorem chkN_of {m i : Nat} {x : Int} (h : mayB x = true) (hb : bitB m i = true ∨ x = 0) : chkN m i x = true := by
  unfold chkN
  rw [h]
  rcases hb with hb | hb <;> simp [hb]
theorem chkT_of {q i : Nat} {x : List UInt8} (h : x.length ≤ 1024) (hb : bitB q i = true ∨ x = []) : chkT q i x = true := by
  unfold chkT
  rcases hb with hb | hb <;> simp [hb, h]
theorem okN_of {m q : Nat} {i : Bool} {a b n : Int} {s t : List UInt8} (h0 : chkN m 0 a = true) (h1 : chkN m 1 b = true) (h2 : chkN m 2 n = true) (h3 : chkT q 0 s = true) (h4 : chkT q 1 t = true) (h5 : i = true) : okN m q i a b n s t 0 = true := by
  unfold okN okT
  simp [h0, h1, h2, h3, h4, h5]
theorem may0 : mayB 0 = true := by decide
theorem second_ok (o x : Ol) (hx : x ∈ secondO o) : x.v = 2 ∧ x.ok = true := by
  unfold secondO at hx
  by_cases hok : o.ok = true
  · rw [if_pos hok] at hx
    have f := olF hok
    by_cases h1 : o.v = 1
    · rw [if_pos h1] at hx
      unfold oneO at hx
      by_cases k1 : o.k = 1
      · rw [if_pos k1] at hx
        simp only [List.mem_cons, List.not_mem_nil, or_false] at hx
        subst hx
        have hl := shortT_len o.s 512 (by omega)
        exact ⟨rfl, okN_of (chkN_of f.a (.inl (show bitB (sN 2 3) 0 = true by decide))) (chkN_of may0 (.inr rfl)) (chkN_of may0 (.inr rfl)) (chkT_of (by simp only; omega) (.inl (show bitB (sT 2 3) 0 = true by decide))) (chkT_of (by simp) (.inr rfl)) (show sI 2 3 = true by decide)⟩
      rw [if_neg k1] at hx
      by_cases k2 : o.k = 2
      · rw [if_pos k2] at hx
        simp only [List.mem_cons, List.not_mem_nil, or_false] at hx
        subst hx
        exact ⟨rfl, okN_of (chkN_of f.a (.inl (show bitB (sN 2 4) 0 = true by decide))) (chkN_of may0 (.inr rfl)) (chkN_of may0 (.inr rfl)) (chkT_of (by simp) (.inr rfl)) (chkT_of (by simp) (.inr rfl)) (show sI 2 4 = true by decide)⟩
      rw [if_neg k2] at hx
      by_cases k3 : o.k = 3
      · rw [if_pos k3] at hx
        simp only [List.mem_cons, List.not_mem_nil, or_false] at hx
        subst hx
        have hl := shortT_len o.s 512 (by omega)
        have hl2 := shortT_len o.t 256 (by omega)
        exact ⟨rfl, okN_of (chkN_of f.a (.inl (show bitB (sN 2 7) 0 = true by decide))) (chkN_of f.b (.inl (show bitB (sN 2 7) 1 = true by decide))) (chkN_of may0 (.inr rfl)) (chkT_of (by simp only; omega) (.inl (show bitB (sT 2 7) 0 = true by decide))) (chkT_of (by simp only; omega) (.inl (show bitB (sT 2 7) 1 = true by decide))) (show sI 2 7 = true by decide)⟩
      rw [if_neg k3] at hx
      by_cases k4 : o.k = 4
      · rw [if_pos k4] at hx
        by_cases hn : o.n < 0 ∨ 3 < o.n
        · rw [if_pos hn] at hx; cases hx
        rw [if_neg hn] at hx
        have m1 : mayB (o.n % 2) = true := by rw [mayB_iff]; omega
        have m2 : mayB (o.n / 2) = true := by rw [mayB_iff]; omega
        simp only [List.mem_cons, List.not_mem_nil, or_false] at hx
        rcases hx with rfl | rfl
        · exact ⟨rfl, okN_of (chkN_of f.a (.inl (show bitB (sN 2 8) 0 = true by decide))) (chkN_of may0 (.inr rfl)) (chkN_of m1 (.inl (show bitB (sN 2 8) 2 = true by decide))) (chkT_of (by simp) (.inr rfl)) (chkT_of (by simp) (.inr rfl)) (show sI 2 8 = true by decide)⟩
        · exact ⟨rfl, okN_of (chkN_of f.a (.inl (show bitB (sN 2 9) 0 = true by decide))) (chkN_of may0 (.inr rfl)) (chkN_of m2 (.inl (show bitB (sN 2 9) 2 = true by decide))) (chkT_of (by simp) (.inr rfl)) (chkT_of (by simp) (.inr rfl)) (show sI 2 9 = true by decide)⟩
      rw [if_neg k4] at hx
      cases hw : wordsL o.s with
      | nil => rw [hw] at hx; cases hx
      | cons y ys =>
        rw [hw] at hx
        simp only [List.mem_cons, List.not_mem_nil, or_false] at hx
        subst hx
        have hl := word_len (l := o.s) (x := y) (by rw [hw]; exact List.mem_cons_self)
        exact ⟨rfl, okN_of (chkN_of f.a (.inl (show bitB (sN 2 10) 0 = true by decide))) (chkN_of may0 (.inr rfl)) (chkN_of f.n (.inl (show bitB (sN 2 10) 2 = true by decide))) (chkT_of (by simp only; omega) (.inl (show bitB (sT 2 10) 0 = true by decide))) (chkT_of (by simp) (.inr rfl)) (show sI 2 10 = true by decide)⟩
    · rw [if_neg h1] at hx
      simp only [List.mem_cons, List.not_mem_nil, or_false] at hx
      subst hx
      exact ⟨by have := f.v; omega, hok⟩
  · rw [if_neg hok] at hx
    cases hx
end Go.Proofs.YtedliepfaibefaaGreatDoor
