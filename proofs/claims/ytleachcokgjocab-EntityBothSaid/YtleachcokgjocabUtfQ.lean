/-
  Texts of runes, in plain Lean: what is put is read back; the clean text, the folded one, the beginning; they stay as they are.
-/
import Derived.Test.YtleachcokgjocabUtfP
namespace Go.Nst
set_option linter.unusedVariables false
set_option linter.unusedSimpArgs false

/-- the text of runes -/
def putR (l : List Int) : List UInt8 := l.flatMap Lib.encodeRune
/-- a rune, or U+FFFD -/
def normR (r : Int) : Nat := if 0 ≤ r ∧ r ≤ 1114111 ∧ ¬ (55296 ≤ r ∧ r ≤ 57343) then r.toNat else 65533
/-- the runes as numbers -/
def runesI (l : List UInt8) : List Int := (runesL l).map Int.ofNat
theorem runesI_step {l : List UInt8} (h : l ≠ []) : runesI l = ((firstL l).1 : Int) :: runesI (l.drop (firstL l).2) := by unfold runesI; rw [runesL_step l h]; rfl
theorem u8Z_of {x : Int} (h0 : 0 ≤ x) (h1 : x < 256) : (x.toNat.toUInt8).toNat = x.toNat := by
  simp [Nat.toUInt8, UInt8.toNat_ofNat]
  omega
theorem tail_of {x : Int} (h0 : 0 ≤ x) (h1 : x < 64) : tailB ((128 + x).toNat.toUInt8) = true ∧ ((128 + x).toNat.toUInt8).toNat - 128 = x.toNat := by
  have := u8Z_of (x := 128 + x) (by omega) (by omega)
  unfold tailB
  rw [this]
  simp
  omega

theorem first_enc (r : Int) (t : List UInt8) : firstL (Lib.encodeRune r ++ t) = (normR r, (Lib.encodeRune r).length) := by
  unfold Lib.encodeRune
  by_cases hbad : r < 0 ∨ (55296 ≤ r ∧ r ≤ 57343) ∨ 1114111 < r
  · rw [Lib.encodeRuneZ_bad hbad]
    have : normR r = 65533 := by unfold normR; rw [if_neg (by omega)]
    rw [this]
    rfl
  have hn : normR r = r.toNat := by unfold normR; rw [if_pos (by omega)]
  rw [hn]
  by_cases c1 : r ≤ 127
  · rw [Lib.encodeRuneZ_one (by omega) c1]
    have := u8Z_of (x := r) (by omega) (by omega)
    simp only [List.map_cons, List.map_nil, List.cons_append, List.nil_append, List.length_cons, List.length_nil, firstL]
    rw [this, if_pos (by omega)]
  by_cases c2 : r ≤ 2047
  · rw [Lib.encodeRuneZ_two (by omega) c2]
    have a1 := u8Z_of (x := 192 + r / 64) (by omega) (by omega)
    have a2 := tail_of (x := r % 64) (by omega) (by omega)
    simp only [List.map_cons, List.map_nil, List.cons_append, List.nil_append, List.length_cons, List.length_nil, firstL]
    rw [a1, a2.1, a2.2, if_neg (by omega), if_pos (by omega), if_pos (by simp; omega)]
    simp
    omega
  by_cases c3 : r ≤ 65535
  · rw [Lib.encodeRuneZ_three (by omega)]
    have a1 := u8Z_of (x := 224 + r / 4096) (by omega) (by omega)
    have a2 := tail_of (x := r / 64 % 64) (by omega) (by omega)
    have a3 := tail_of (x := r % 64) (by omega) (by omega)
    have e : (((224 + r / 4096).toNat - 224) * 64 + (r / 64 % 64).toNat) * 64 + (r % 64).toNat = r.toNat := by omega
    simp only [List.map_cons, List.map_nil, List.cons_append, List.nil_append, List.length_cons, List.length_nil, firstL]
    rw [a1, a2.1, a2.2, a3.1, a3.2, e, if_neg (by omega), if_neg (by omega), if_pos (by omega), if_pos (by simp [okR]; omega)]
  · rw [Lib.encodeRuneZ_four (by omega) (by omega)]
    have a1 := u8Z_of (x := 240 + r / 262144) (by omega) (by omega)
    have a2 := tail_of (x := r / 4096 % 64) (by omega) (by omega)
    have a3 := tail_of (x := r / 64 % 64) (by omega) (by omega)
    have a4 := tail_of (x := r % 64) (by omega) (by omega)
    have e : ((((240 + r / 262144).toNat - 240) * 64 + (r / 4096 % 64).toNat) * 64 + (r / 64 % 64).toNat) * 64 + (r % 64).toNat = r.toNat := by omega
    simp only [List.map_cons, List.map_nil, List.cons_append, List.nil_append, List.length_cons, List.length_nil, firstL]
    rw [a1, a2.1, a2.2, a3.1, a3.2, a4.1, a4.2, e, if_neg (by clear a2 a3 a4 e; omega), if_neg (by clear a2 a3 a4 e; omega), if_neg (by clear a2 a3 a4 e; omega), if_pos (by clear a2 a3 a4 e; omega), if_pos (by clear a1 a2 a3 a4 e; simp [okR]; omega)]

theorem enc_ne (r : Int) (t : List UInt8) : Lib.encodeRune r ++ t ≠ [] := by
  have := Lib.runeCells_le r
  rw [Lib.runeCells_length] at this
  intro e
  have h2 := congrArg List.length e
  rw [List.length_append, List.length_nil] at h2
  omega
theorem enc_notbad (r : Int) : ¬ (normR r = 65533 ∧ (Lib.encodeRune r).length = 1) := by
  rintro ⟨h1, h2⟩
  unfold Lib.encodeRune at h2
  by_cases hbad : r < 0 ∨ (55296 ≤ r ∧ r ≤ 57343) ∨ 1114111 < r
  · rw [Lib.encodeRuneZ_bad hbad] at h2
    simp at h2
  · have hn : normR r = r.toNat := by unfold normR; rw [if_pos (by omega)]
    rw [Lib.encodeRuneZ_three (by omega)] at h2
    simp at h2
/-- the runes of the text of runes -/
theorem runes_put (l : List Int) : runesI (putR l) = l.map fun r => (normR r : Int) := by
  induction l with
  | nil => rfl
  | cons r t ih =>
    simp only [putR, List.flatMap_cons] at ih ⊢
    rw [runesI_step (enc_ne _ _), first_enc]
    simp [ih]
theorem right_put (l : List Int) : rightL (putR l) = true := by
  induction l with
  | nil => rfl
  | cons r t ih =>
    simp only [putR, List.flatMap_cons] at ih ⊢
    rw [rightL_step _ (enc_ne _ _), first_enc]
    have := enc_notbad r
    have h2 : (normR r == 65533 && (Lib.encodeRune r).length == 1) = false := by
      rw [Bool.eq_false_iff]
      intro h
      simp at h
      exact this h
    simp only [h2, List.drop_left, ih]
    rfl
/-- all are runes -/
def Okr (l : List Int) : Prop := ∀ r ∈ l, 0 ≤ r ∧ r ≤ 1114111 ∧ ¬ (55296 ≤ r ∧ r ≤ 57343)
theorem runes_put_ok (l : List Int) (h : Okr l) : runesI (putR l) = l := by
  rw [runes_put]
  refine (List.map_congr_left (g := id) fun r hr => ?_).trans (List.map_id _)
  have := h r hr
  unfold normR
  rw [if_pos this]
  simp
  omega
theorem runes_ok (l : List UInt8) : Okr (runesI l) := by
  have : ∀ (k : Nat) (l : List UInt8), Okr ((runesF k l).map Int.ofNat) := by
    intro k
    induction k with
    | zero => intro l r hr; simp [runesF] at hr
    | succ k ih =>
      intro l r hr
      cases l with
      | nil => simp [runesF] at hr
      | cons c t =>
        simp only [runesF, List.map_cons, List.mem_cons] at hr
        rcases hr with rfl | hr
        · have := firstL_rune (c :: t)
          simp only [Int.ofNat_eq_natCast]
          omega
        · exact ih _ r hr
  exact this _ l

def blankB (c : Int) : Bool := c == 9 || c == 10 || c == 13 || c == 32 || c == 160 || c == 8232 || c == 8233 || c == 12288
def ctrlB (c : Int) : Bool := decide (c < 32) || (decide (127 ≤ c) && decide (c ≤ 159))
/-- one rune more for the clean text -/
def cleanS (st : List Int × Bool) (c : Int) : List Int × Bool :=
  if blankB c then (st.1, decide (0 < st.1.length)) else if ctrlB c then st else if st.2 then (st.1 ++ [32] ++ [c], false) else (st.1 ++ [c], false)
def cleanF (l : List Int) : List Int × Bool := l.foldl cleanS ([], false)
def cleanR (l : List Int) : List Int := (cleanF l).1
theorem cleanF_snoc (l : List Int) (c : Int) : cleanF (l ++ [c]) = cleanS (cleanF l) c := by simp [cleanF]
theorem clean_inv : ∀ (n : Nat) (l : List Int), l.length = n → cleanF (cleanF l).1 = ((cleanF l).1, false) ∧ ((cleanF l).2 = true → 0 < (cleanF l).1.length) ∧ (∀ c ∈ (cleanF l).1, c ∈ l ∨ c = 32)
  | 0, l, h => by
    obtain rfl : l = [] := List.eq_nil_of_length_eq_zero h
    exact ⟨rfl, by simp [cleanF], by simp [cleanF]⟩
  | n + 1, l, h => by
    have hne : l ≠ [] := by intro e; subst e; simp at h
    obtain ⟨t, c, rfl⟩ : ∃ t c, l = t ++ [c] := ⟨l.dropLast, l.getLast hne, (List.dropLast_concat_getLast hne).symm⟩
    obtain ⟨i1, i2, i3⟩ := clean_inv n t (by simpa using h)
    rw [cleanF_snoc]
    generalize cleanF t = st at *
    obtain ⟨out, wait⟩ := st
    simp only at i1 i2 i3
    unfold cleanS
    by_cases b1 : blankB c = true
    · simp only [b1, if_true]
      exact ⟨i1, by simp, fun z hz => by rcases i3 z hz with h | h <;> simp [h]⟩
    by_cases b2 : ctrlB c = true
    · simp only [b1, b2, if_true]
      exact ⟨i1, i2, fun z hz => by rcases i3 z hz with h | h <;> simp [h]⟩
    cases wait with
    | false =>
      simp only [b1, b2]
      refine ⟨?_, by simp, fun z hz => ?_⟩
      · simp only [Bool.false_eq_true, if_false]
        rw [cleanF_snoc, i1]
        simp [cleanS, b1, b2]
      · simp at hz
        rcases hz with hz | rfl
        · rcases i3 z hz with h | h <;> simp [h]
        · simp
    | true =>
      have hpos := i2 rfl
      have e32 : blankB 32 = true := by decide
      simp only [b1, b2]
      refine ⟨?_, by simp, fun z hz => ?_⟩
      · simp only [Bool.false_eq_true, if_false, if_true]
        rw [cleanF_snoc, cleanF_snoc, i1]
        simp [cleanS, b1, b2, e32, hpos]
      · simp at hz
        rcases hz with hz | rfl | rfl
        · rcases i3 z hz with h | h <;> simp [h]
        · simp
        · simp
theorem clean_again (l : List Int) : cleanR (cleanR l) = cleanR l := by
  have := (clean_inv _ l rfl).1
  unfold cleanR
  rw [this]
theorem clean_ok (l : List Int) (h : Okr l) : Okr (cleanR l) := by
  intro r hr
  rcases (clean_inv _ l rfl).2.2 r hr with h2 | rfl
  · exact h r h2
  · omega
theorem cleanF_len (l : List Int) : (cleanF l).1.length + (if (cleanF l).2 then 1 else 0) ≤ 2 * l.length := by
  suffices ∀ (n : Nat) (l : List Int), l.length = n → (cleanF l).1.length + (if (cleanF l).2 then 1 else 0) ≤ 2 * l.length from this _ l rfl
  intro n
  induction n with
  | zero => intro l h; obtain rfl : l = [] := List.eq_nil_of_length_eq_zero h; simp [cleanF]
  | succ n ih =>
    intro l h
    have hne : l ≠ [] := by intro e; subst e; simp at h
    obtain ⟨t, c, rfl⟩ : ∃ t c, l = t ++ [c] := ⟨l.dropLast, l.getLast hne, (List.dropLast_concat_getLast hne).symm⟩
    have := ih t (by simpa using h)
    rw [cleanF_snoc]
    generalize cleanF t = st at *
    obtain ⟨out, wait⟩ := st
    simp only [List.length_append, List.length_cons, List.length_nil] at *
    unfold cleanS
    cases wait <;> simp only [Bool.false_eq_true, if_false, if_true] at * <;> (repeat' split) <;> simp at * <;> omega

def foldC (c : Int) : Int :=
  if (65 ≤ c ∧ c ≤ 90) ∨ (192 ≤ c ∧ c ≤ 222 ∧ c ≠ 215) ∨ (913 ≤ c ∧ c ≤ 937 ∧ c ≠ 930) ∨ (1040 ≤ c ∧ c ≤ 1071) then c + 32
  else if 1024 ≤ c ∧ c ≤ 1039 then c + 80 else c
theorem foldC_again (c : Int) : foldC (foldC c) = foldC c := by
  unfold foldC
  by_cases h1 : (65 ≤ c ∧ c ≤ 90) ∨ (192 ≤ c ∧ c ≤ 222 ∧ c ≠ 215) ∨ (913 ≤ c ∧ c ≤ 937 ∧ c ≠ 930) ∨ (1040 ≤ c ∧ c ≤ 1071)
  · rw [if_pos h1, if_neg (by omega), if_neg (by omega)]
  · rw [if_neg h1]
    by_cases h2 : 1024 ≤ c ∧ c ≤ 1039
    · rw [if_pos h2, if_neg (by omega), if_neg (by omega)]
    · rw [if_neg h2, if_neg h1, if_neg h2]
theorem foldC_ok (l : List Int) (h : Okr l) : Okr (l.map foldC) := by
  intro r hr
  simp only [List.mem_map] at hr
  obtain ⟨c, hc, rfl⟩ := hr
  have := h c hc
  unfold foldC
  (repeat' split) <;> omega

/-- the beginning, of at most n bytes -/
def cutF : Nat → List UInt8 → Int → Nat
  | 0, _, _ => 0
  | _ + 1, [], _ => 0
  | k + 1, c :: t, n => if ((firstL (c :: t)).2 : Int) ≤ n then (firstL (c :: t)).2 + cutF k ((c :: t).drop (firstL (c :: t)).2) (n - (firstL (c :: t)).2) else 0
def cutL (l : List UInt8) (n : Int) : Nat := cutF l.length l n
theorem cutF_fuel : ∀ (k m : Nat) (l : List UInt8) (n : Int), l.length ≤ k → l.length ≤ m → cutF k l n = cutF m l n
  | 0, m, l, n, hk, _ => by
    obtain rfl : l = [] := List.eq_nil_of_length_eq_zero (by omega)
    cases m <;> rfl
  | k + 1, 0, l, n, _, hm => by
    obtain rfl : l = [] := List.eq_nil_of_length_eq_zero (by omega)
    rfl
  | k + 1, m + 1, [], n, _, _ => rfl
  | k + 1, m + 1, c :: t, n, hk, hm => by
    have hw := firstL_width (c :: t) (by simp)
    simp only [cutF]
    rw [cutF_fuel k m _ _ (by simp at hk ⊢; omega) (by simp at hm ⊢; omega)]
theorem cutL_nil (n : Int) : cutL [] n = 0 := rfl
theorem cutL_step (l : List UInt8) (n : Int) (h : l ≠ []) : cutL l n = if ((firstL l).2 : Int) ≤ n then (firstL l).2 + cutL (l.drop (firstL l).2) (n - (firstL l).2) else 0 := by
  cases l with
  | nil => exact absurd rfl h
  | cons c t =>
    have hw := firstL_width (c :: t) (by simp)
    unfold cutL
    simp only [List.length_cons, cutF]
    rw [cutF_fuel t.length _ _ _ (by simp at hw ⊢; omega) (Nat.le_refl _)]
theorem cutL_le (l : List UInt8) (n : Int) : cutL l n ≤ l.length ∧ (0 ≤ n → (cutL l n : Int) ≤ n) ∧ ((l.length : Int) ≤ n → cutL l n = l.length) := by
  suffices ∀ (k : Nat) (l : List UInt8) (n : Int), l.length ≤ k → cutL l n ≤ l.length ∧ (0 ≤ n → (cutL l n : Int) ≤ n) ∧ ((l.length : Int) ≤ n → cutL l n = l.length) from this _ l n (Nat.le_refl _)
  intro k
  induction k with
  | zero =>
    intro l n h
    obtain rfl : l = [] := List.eq_nil_of_length_eq_zero (by omega)
    rw [cutL_nil]
    simp
  | succ k ih =>
    intro l n h
    by_cases hl : l = []
    · subst hl; rw [cutL_nil]; simp
    have hw := firstL_width l hl
    have := ih (l.drop (firstL l).2) (n - (firstL l).2) (by rw [List.length_drop]; omega)
    rw [List.length_drop] at this
    rw [cutL_step l n hl]
    by_cases hc : ((firstL l).2 : Int) ≤ n
    · rw [if_pos hc]; omega
    · rw [if_neg hc]; omega
end Go.Nst
