/-
  Queries' texts and what they lean on, part 3: only what the claims need.
-/
import Derived.WalkKit
import Derived.Lib.RuneBytes
import Derived.Lib.FieldsP
section
section
namespace Go.Nst
set_option linter.unusedVariables false
set_option linter.unusedSimpArgs false

def tailB (c : UInt8) : Bool := decide (128 ≤ c.toNat) && decide (c.toNat < 192)
def okR (r : Nat) : Bool := decide (r ≤ 1114111) && !(decide (55296 ≤ r) && decide (r ≤ 57343))

/-- the first rune, and how many bytes it has -/
def firstL : List UInt8 → Nat × Nat
  | [] => (65533, 1)
  | c :: t =>
    if c.toNat < 128 then (c.toNat, 1)
    else if 192 ≤ c.toNat ∧ c.toNat < 224 then
      match t with
      | d :: _ => if tailB d && decide (128 ≤ (c.toNat - 192) * 64 + (d.toNat - 128)) then ((c.toNat - 192) * 64 + (d.toNat - 128), 2) else (65533, 1)
      | _ => (65533, 1)
    else if 224 ≤ c.toNat ∧ c.toNat < 240 then
      match t with
      | d :: e :: _ => if tailB d && tailB e && decide (2048 ≤ ((c.toNat - 224) * 64 + (d.toNat - 128)) * 64 + (e.toNat - 128)) && okR (((c.toNat - 224) * 64 + (d.toNat - 128)) * 64 + (e.toNat - 128)) then (((c.toNat - 224) * 64 + (d.toNat - 128)) * 64 + (e.toNat - 128), 3) else (65533, 1)
      | _ => (65533, 1)
    else if 240 ≤ c.toNat ∧ c.toNat < 248 then
      match t with
      | d :: e :: f :: _ => if tailB d && tailB e && tailB f && decide (65536 ≤ (((c.toNat - 240) * 64 + (d.toNat - 128)) * 64 + (e.toNat - 128)) * 64 + (f.toNat - 128)) && okR ((((c.toNat - 240) * 64 + (d.toNat - 128)) * 64 + (e.toNat - 128)) * 64 + (f.toNat - 128)) then ((((c.toNat - 240) * 64 + (d.toNat - 128)) * 64 + (e.toNat - 128)) * 64 + (f.toNat - 128), 4) else (65533, 1)
      | _ => (65533, 1)
    else (65533, 1)

theorem firstL_width (l : List UInt8) (h : l ≠ []) : 1 ≤ (firstL l).2 ∧ (firstL l).2 ≤ 4 ∧ (firstL l).2 ≤ l.length := by
  cases l with
  | nil => exact absurd rfl h
  | cons c t =>
    unfold firstL
    dsimp only
    (repeat' split) <;> simp <;> try omega
theorem firstL_rune (l : List UInt8) : (firstL l).1 ≤ 1114111 ∧ ¬ (55296 ≤ (firstL l).1 ∧ (firstL l).1 ≤ 57343) := by
  cases l with
  | nil => simp [firstL]
  | cons c t =>
    unfold firstL
    dsimp only
    (repeat' split) <;> simp_all [okR, tailB] <;> omega

def runesF : Nat → List UInt8 → List Nat
  | 0, _ => []
  | _ + 1, [] => []
  | k + 1, c :: t => (firstL (c :: t)).1 :: runesF k ((c :: t).drop (firstL (c :: t)).2)
/-- the runes of a text -/
def runesL (l : List UInt8) : List Nat := runesF l.length l
theorem runesF_fuel : ∀ (k m : Nat) (l : List UInt8), l.length ≤ k → l.length ≤ m → runesF k l = runesF m l
  | 0, m, l, hk, _ => by
    obtain rfl : l = [] := List.eq_nil_of_length_eq_zero (by omega)
    cases m <;> rfl
  | k + 1, 0, l, _, hm => by
    obtain rfl : l = [] := List.eq_nil_of_length_eq_zero (by omega)
    rfl
  | k + 1, m + 1, [], _, _ => rfl
  | k + 1, m + 1, c :: t, hk, hm => by
    have hw := firstL_width (c :: t) (by simp)
    simp only [runesF]
    rw [runesF_fuel k m _ (by simp at hk ⊢; omega) (by simp at hm ⊢; omega)]
theorem runesL_nil : runesL [] = [] := rfl
theorem runesL_step (l : List UInt8) (h : l ≠ []) : runesL l = (firstL l).1 :: runesL (l.drop (firstL l).2) := by
  cases l with
  | nil => exact absurd rfl h
  | cons c t =>
    have hw := firstL_width (c :: t) (by simp)
    unfold runesL
    simp only [List.length_cons, runesF]
    rw [runesF_fuel t.length _ _ (by simp at hw ⊢; omega) (Nat.le_refl _)]

/-- no bytes that are no rune's -/
def rightF : Nat → List UInt8 → Bool
  | 0, _ => true
  | _ + 1, [] => true
  | k + 1, c :: t => !((firstL (c :: t)).1 == 65533 && (firstL (c :: t)).2 == 1) && rightF k ((c :: t).drop (firstL (c :: t)).2)
def rightL (l : List UInt8) : Bool := rightF l.length l
theorem rightF_fuel : ∀ (k m : Nat) (l : List UInt8), l.length ≤ k → l.length ≤ m → rightF k l = rightF m l
  | 0, m, l, hk, _ => by
    obtain rfl : l = [] := List.eq_nil_of_length_eq_zero (by omega)
    cases m <;> rfl
  | k + 1, 0, l, _, hm => by
    obtain rfl : l = [] := List.eq_nil_of_length_eq_zero (by omega)
    rfl
  | k + 1, m + 1, [], _, _ => rfl
  | k + 1, m + 1, c :: t, hk, hm => by
    have hw := firstL_width (c :: t) (by simp)
    simp only [rightF]
    rw [rightF_fuel k m _ (by simp at hk ⊢; omega) (by simp at hm ⊢; omega)]
theorem rightL_step (l : List UInt8) (h : l ≠ []) : rightL l = (!((firstL l).1 == 65533 && (firstL l).2 == 1) && rightL (l.drop (firstL l).2)) := by
  cases l with
  | nil => exact absurd rfl h
  | cons c t =>
    have hw := firstL_width (c :: t) (by simp)
    unfold rightL
    simp only [List.length_cons, rightF]
    rw [rightF_fuel t.length _ _ (by simp at hw ⊢; omega) (Nat.le_refl _)]

/-- the model's decoder -/
theorem get_at (l : List UInt8) (i : Nat) (h : i < l.length) : (ByteArray.mk l.toArray).get! i = l[i] := by
  simp [ByteArray.get!, h]
theorem okR_valid (r : Nat) : Utf8.valid (r : Int) = okR r := by
  unfold Utf8.valid okR
  rw [Bool.eq_iff_iff]
  simp
  omega
theorem tail_iff (d : UInt8) : (d.toNat / 64 == 2) = tailB d := by
  have := d.toNat_lt
  rw [Bool.eq_iff_iff]
  simp [tailB]
  omega
theorem decode_first (l : List UInt8) (pos : Nat) (h : pos < l.length) : Utf8.decode ⟨l.toArray⟩ pos = firstL (l.drop pos) := by
  have hsz : (ByteArray.mk l.toArray).size = l.length := by simp [ByteArray.size]
  obtain ⟨c, t, hd⟩ : ∃ c t, l.drop pos = c :: t := by
    cases hl : l.drop pos with
    | nil => have := congrArg List.length hl; simp at this; omega
    | cons c t => exact ⟨c, t, rfl⟩
  have hlen : l.length = pos + 1 + t.length := by have := congrArg List.length hd; simp at this; omega
  have hg : ∀ k, pos + k < l.length → (ByteArray.mk l.toArray).get! (pos + k) = (c :: t)[k]?.getD 0 := by
    intro k hk
    rw [get_at l _ hk, ← hd, List.getElem?_drop, List.getElem?_eq_getElem hk]
    rfl
  have h0 := hg 0 (by omega)
  have hc := c.toNat_lt
  simp at h0
  unfold Utf8.decode
  simp only [hsz, hd, Nat.add_zero, h0]
  unfold firstL
  dsimp only
  by_cases a1 : c.toNat < 128
  · simp [a1]
  by_cases a2 : 192 ≤ c.toNat ∧ c.toNat < 224
  · have b1 : c.toNat / 32 = 6 := by omega
    have b2 : ¬ c.toNat / 16 = 14 := by omega
    have b3 : ¬ c.toNat / 8 = 30 := by omega
    cases t with
    | nil => simp at hlen; simp [a1, a2, b1, b2, b3, hlen, Utf8.runeError]
    | cons d t =>
      have h1 := hg 1 (by simp at hlen; omega)
      have hdl := d.toNat_lt
      simp at h1 hlen
      have q1 : pos + 1 < l.length := by omega
      simp only [h1, a1, a2, b1, b2, b3, q1, Utf8.runeError]
      have e1 : c.toNat % 32 = c.toNat - 192 := by omega
      by_cases t1 : d.toNat / 64 = 2
      · have e2 : d.toNat % 64 = d.toNat - 128 := by omega
        have t1' : tailB d = true := by simp [tailB]; omega
        simp [t1, t1', e1, e2]
      · have t1' : tailB d = false := by rw [Bool.eq_false_iff]; simp [tailB]; omega
        simp [t1, t1']
  by_cases a3 : 224 ≤ c.toNat ∧ c.toNat < 240
  · have b1 : ¬ c.toNat / 32 = 6 := by omega
    have b2 : c.toNat / 16 = 14 := by omega
    have b3 : ¬ c.toNat / 8 = 30 := by omega
    cases t with
    | nil => simp at hlen; simp [a1, a2, a3, b1, b2, b3, hlen, Utf8.runeError]
    | cons d t =>
      have h1 := hg 1 (by simp at hlen; omega)
      cases t with
      | nil => simp at hlen; simp [a1, a2, a3, b1, b2, b3, hlen, Utf8.runeError]
      | cons e t =>
        have h2 := hg 2 (by simp at hlen; omega)
        simp at h1 h2 hlen
        have q1 : pos + 1 < l.length := by omega
        have q2 : pos + 2 < l.length := by omega
        have e1 : c.toNat % 16 = c.toNat - 224 := by omega
        simp only [h1, h2, a1, a2, a3, b1, b2, b3, q1, q2, Utf8.runeError, tail_iff, okR_valid, e1]
        by_cases t1 : tailB d = true
        · by_cases t2 : tailB e = true
          · have e2 : d.toNat % 64 = d.toNat - 128 := by simp [tailB] at t1; omega
            have e3 : e.toNat % 64 = e.toNat - 128 := by simp [tailB] at t2; omega
            have e4 : (c.toNat - 224) * 4096 + (d.toNat - 128) * 64 + (e.toNat - 128) = ((c.toNat - 224) * 64 + (d.toNat - 128)) * 64 + (e.toNat - 128) := by omega
            rw [e2, e3, e4]
            simp [t1, t2, b1, b2, b3]
          · simp [t1, t2, b1, b2, b3]
        · simp [t1, b1, b2, b3]
  by_cases a4 : 240 ≤ c.toNat ∧ c.toNat < 248
  · have b1 : ¬ c.toNat / 32 = 6 := by omega
    have b2 : ¬ c.toNat / 16 = 14 := by omega
    have b3 : c.toNat / 8 = 30 := by omega
    cases t with
    | nil => simp at hlen; simp [a1, a2, a3, a4, b1, b2, b3, hlen, Utf8.runeError]
    | cons d t =>
      have h1 := hg 1 (by simp at hlen; omega)
      cases t with
      | nil => simp at hlen; simp [a1, a2, a3, a4, b1, b2, b3, hlen, Utf8.runeError]
      | cons e t =>
        have h2 := hg 2 (by simp at hlen; omega)
        cases t with
        | nil => simp at hlen; simp [a1, a2, a3, a4, b1, b2, b3, hlen, Utf8.runeError]
        | cons f t =>
          have h3 := hg 3 (by simp at hlen; omega)
          simp at h1 h2 h3 hlen
          have q1 : pos + 1 < l.length := by omega
          have q2 : pos + 2 < l.length := by omega
          have q3 : pos + 3 < l.length := by omega
          have e1 : c.toNat % 8 = c.toNat - 240 := by omega
          simp only [h1, h2, h3, a1, a2, a3, a4, b1, b2, b3, q1, q2, q3, Utf8.runeError, tail_iff, okR_valid, e1]
          by_cases t1 : tailB d = true
          · by_cases t2 : tailB e = true
            · by_cases t3 : tailB f = true
              · have e2 : d.toNat % 64 = d.toNat - 128 := by simp [tailB] at t1; omega
                have e3 : e.toNat % 64 = e.toNat - 128 := by simp [tailB] at t2; omega
                have e5 : f.toNat % 64 = f.toNat - 128 := by simp [tailB] at t3; omega
                have e4 : (c.toNat - 240) * 262144 + (d.toNat - 128) * 4096 + (e.toNat - 128) * 64 + (f.toNat - 128) = (((c.toNat - 240) * 64 + (d.toNat - 128)) * 64 + (e.toNat - 128)) * 64 + (f.toNat - 128) := by omega
                rw [e2, e3, e5, e4]
                simp [t1, t2, t3, b1, b2, b3]
              · simp [t1, t2, t3, b1, b2, b3]
            · simp [t1, t2, b1, b2, b3]
          · simp [t1, b1, b2, b3]
  · have b1 : ¬ c.toNat / 32 = 6 := by omega
    have b2 : ¬ c.toNat / 16 = 14 := by omega
    have b3 : ¬ c.toNat / 8 = 30 := by omega
    simp [a1, a2, a3, a4, b1, b2, b3, Utf8.runeError]
end Go.Nst
end
section
namespace Go.Nst
set_option linter.unusedVariables false
set_option linter.unusedSimpArgs false

/-- the text of runes -/
def putR (l : List Int) : List UInt8 := l.flatMap Lib.encodeRune
/-- a rune, or U+FFFD -/
def normR (r : Int) : Nat := if 0 ≤ r ∧ r ≤ 1114111 ∧ ¬ (55296 ≤ r ∧ r ≤ 57343) then r.toNat else 65533
/-- the runes as numbers -/
def runesI (l : List UInt8) : List Int := (runesL l).map Int.ofNat
theorem runesI_step {l : List UInt8} (h : l ≠ []) : runesI l = ((firstL l).1 : Int) :: runesI (l.drop (firstL l).2) := by unfold runesI; rw [runesL_step l h]; rfl
theorem u8Z_of {x : Int} (h0 : 0 ≤ x) (h1 : x < 256) : (x.toNat.toUInt8).toNat = x.toNat := by
  simp [Nat.toUInt8, UInt8.toNat_ofNat]
  omega
theorem tail_of {x : Int} (h0 : 0 ≤ x) (h1 : x < 64) : tailB ((128 + x).toNat.toUInt8) = true ∧ ((128 + x).toNat.toUInt8).toNat - 128 = x.toNat := by
  have := u8Z_of (x := 128 + x) (by omega) (by omega)
  unfold tailB
  rw [this]
  simp
  omega

theorem first_enc (r : Int) (t : List UInt8) : firstL (Lib.encodeRune r ++ t) = (normR r, (Lib.encodeRune r).length) := by
  unfold Lib.encodeRune
  by_cases hbad : r < 0 ∨ (55296 ≤ r ∧ r ≤ 57343) ∨ 1114111 < r
  · rw [Lib.encodeRuneZ_bad hbad]
    have : normR r = 65533 := by unfold normR; rw [if_neg (by omega)]
    rw [this]
    rfl
  have hn : normR r = r.toNat := by unfold normR; rw [if_pos (by omega)]
  rw [hn]
  by_cases c1 : r ≤ 127
  · rw [Lib.encodeRuneZ_one (by omega) c1]
    have := u8Z_of (x := r) (by omega) (by omega)
    simp only [List.map_cons, List.map_nil, List.cons_append, List.nil_append, List.length_cons, List.length_nil, firstL]
    rw [this, if_pos (by omega)]
  by_cases c2 : r ≤ 2047
  · rw [Lib.encodeRuneZ_two (by omega) c2]
    have a1 := u8Z_of (x := 192 + r / 64) (by omega) (by omega)
    have a2 := tail_of (x := r % 64) (by omega) (by omega)
    simp only [List.map_cons, List.map_nil, List.cons_append, List.nil_append, List.length_cons, List.length_nil, firstL]
    rw [a1, a2.1, a2.2, if_neg (by omega), if_pos (by omega), if_pos (by simp; omega)]
    simp
    omega
  by_cases c3 : r ≤ 65535
  · rw [Lib.encodeRuneZ_three (by omega)]
    have a1 := u8Z_of (x := 224 + r / 4096) (by omega) (by omega)
    have a2 := tail_of (x := r / 64 % 64) (by omega) (by omega)
    have a3 := tail_of (x := r % 64) (by omega) (by omega)
    have e : (((224 + r / 4096).toNat - 224) * 64 + (r / 64 % 64).toNat) * 64 + (r % 64).toNat = r.toNat := by omega
    simp only [List.map_cons, List.map_nil, List.cons_append, List.nil_append, List.length_cons, List.length_nil, firstL]
    rw [a1, a2.1, a2.2, a3.1, a3.2, e, if_neg (by omega), if_neg (by omega), if_pos (by omega), if_pos (by simp [okR]; omega)]
  · rw [Lib.encodeRuneZ_four (by omega) (by omega)]
    have a1 := u8Z_of (x := 240 + r / 262144) (by omega) (by omega)
    have a2 := tail_of (x := r / 4096 % 64) (by omega) (by omega)
    have a3 := tail_of (x := r / 64 % 64) (by omega) (by omega)
    have a4 := tail_of (x := r % 64) (by omega) (by omega)
    have e : ((((240 + r / 262144).toNat - 240) * 64 + (r / 4096 % 64).toNat) * 64 + (r / 64 % 64).toNat) * 64 + (r % 64).toNat = r.toNat := by omega
    simp only [List.map_cons, List.map_nil, List.cons_append, List.nil_append, List.length_cons, List.length_nil, firstL]
    rw [a1, a2.1, a2.2, a3.1, a3.2, a4.1, a4.2, e, if_neg (by clear a2 a3 a4 e; omega), if_neg (by clear a2 a3 a4 e; omega), if_neg (by clear a2 a3 a4 e; omega), if_pos (by clear a2 a3 a4 e; omega), if_pos (by clear a1 a2 a3 a4 e; simp [okR]; omega)]

theorem enc_ne (r : Int) (t : List UInt8) : Lib.encodeRune r ++ t ≠ [] := by
  have := Lib.runeCells_le r
  rw [Lib.runeCells_length] at this
  intro e
  have h2 := congrArg List.length e
  rw [List.length_append, List.length_nil] at h2
  omega
/-- the runes of the text of runes -/
theorem runes_put (l : List Int) : runesI (putR l) = l.map fun r => (normR r : Int) := by
  induction l with
  | nil => rfl
  | cons r t ih =>
    simp only [putR, List.flatMap_cons] at ih ⊢
    rw [runesI_step (enc_ne _ _), first_enc]
    simp [ih]
/-- all are runes -/
def Okr (l : List Int) : Prop := ∀ r ∈ l, 0 ≤ r ∧ r ≤ 1114111 ∧ ¬ (55296 ≤ r ∧ r ≤ 57343)
theorem runes_put_ok (l : List Int) (h : Okr l) : runesI (putR l) = l := by
  rw [runes_put]
  refine (List.map_congr_left (g := id) fun r hr => ?_).trans (List.map_id _)
  have := h r hr
  unfold normR
  rw [if_pos this]
  simp
  omega
theorem runes_ok (l : List UInt8) : Okr (runesI l) := by
  have : ∀ (k : Nat) (l : List UInt8), Okr ((runesF k l).map Int.ofNat) := by
    intro k
    induction k with
    | zero => intro l r hr; simp [runesF] at hr
    | succ k ih =>
      intro l r hr
      cases l with
      | nil => simp [runesF] at hr
      | cons c t =>
        simp only [runesF, List.map_cons, List.mem_cons] at hr
        rcases hr with rfl | hr
        · have := firstL_rune (c :: t)
          simp only [Int.ofNat_eq_natCast]
          omega
        · exact ih _ r hr
  exact this _ l

def blankB (c : Int) : Bool := c == 9 || c == 10 || c == 13 || c == 32 || c == 160 || c == 8232 || c == 8233 || c == 12288
def ctrlB (c : Int) : Bool := decide (c < 32) || (decide (127 ≤ c) && decide (c ≤ 159))
/-- one rune more for the clean text -/
def cleanS (st : List Int × Bool) (c : Int) : List Int × Bool :=
  if blankB c then (st.1, decide (0 < st.1.length)) else if ctrlB c then st else if st.2 then (st.1 ++ [32] ++ [c], false) else (st.1 ++ [c], false)
def cleanF (l : List Int) : List Int × Bool := l.foldl cleanS ([], false)
def cleanR (l : List Int) : List Int := (cleanF l).1
theorem cleanF_snoc (l : List Int) (c : Int) : cleanF (l ++ [c]) = cleanS (cleanF l) c := by simp [cleanF]
theorem clean_inv : ∀ (n : Nat) (l : List Int), l.length = n → cleanF (cleanF l).1 = ((cleanF l).1, false) ∧ ((cleanF l).2 = true → 0 < (cleanF l).1.length) ∧ (∀ c ∈ (cleanF l).1, c ∈ l ∨ c = 32)
  | 0, l, h => by
    obtain rfl : l = [] := List.eq_nil_of_length_eq_zero h
    exact ⟨rfl, by simp [cleanF], by simp [cleanF]⟩
  | n + 1, l, h => by
    have hne : l ≠ [] := by intro e; subst e; simp at h
    obtain ⟨t, c, rfl⟩ : ∃ t c, l = t ++ [c] := ⟨l.dropLast, l.getLast hne, (List.dropLast_concat_getLast hne).symm⟩
    obtain ⟨i1, i2, i3⟩ := clean_inv n t (by simpa using h)
    rw [cleanF_snoc]
    generalize cleanF t = st at *
    obtain ⟨out, wait⟩ := st
    simp only at i1 i2 i3
    unfold cleanS
    by_cases b1 : blankB c = true
    · simp only [b1, if_true]
      exact ⟨i1, by simp, fun z hz => by rcases i3 z hz with h | h <;> simp [h]⟩
    by_cases b2 : ctrlB c = true
    · simp only [b1, b2, if_true]
      exact ⟨i1, i2, fun z hz => by rcases i3 z hz with h | h <;> simp [h]⟩
    cases wait with
    | false =>
      simp only [b1, b2]
      refine ⟨?_, by simp, fun z hz => ?_⟩
      · simp only [Bool.false_eq_true, if_false]
        rw [cleanF_snoc, i1]
        simp [cleanS, b1, b2]
      · simp at hz
        rcases hz with hz | rfl
        · rcases i3 z hz with h | h <;> simp [h]
        · simp
    | true =>
      have hpos := i2 rfl
      have e32 : blankB 32 = true := by decide
      simp only [b1, b2]
      refine ⟨?_, by simp, fun z hz => ?_⟩
      · simp only [Bool.false_eq_true, if_false, if_true]
        rw [cleanF_snoc, cleanF_snoc, i1]
        simp [cleanS, b1, b2, e32, hpos]
      · simp at hz
        rcases hz with hz | rfl | rfl
        · rcases i3 z hz with h | h <;> simp [h]
        · simp
        · simp
theorem clean_ok (l : List Int) (h : Okr l) : Okr (cleanR l) := by
  intro r hr
  rcases (clean_inv _ l rfl).2.2 r hr with h2 | rfl
  · exact h r h2
  · omega
def foldC (c : Int) : Int :=
  if (65 ≤ c ∧ c ≤ 90) ∨ (192 ≤ c ∧ c ≤ 222 ∧ c ≠ 215) ∨ (913 ≤ c ∧ c ≤ 937 ∧ c ≠ 930) ∨ (1040 ≤ c ∧ c ≤ 1071) then c + 32
  else if 1024 ≤ c ∧ c ≤ 1039 then c + 80 else c
theorem foldC_again (c : Int) : foldC (foldC c) = foldC c := by
  unfold foldC
  by_cases h1 : (65 ≤ c ∧ c ≤ 90) ∨ (192 ≤ c ∧ c ≤ 222 ∧ c ≠ 215) ∨ (913 ≤ c ∧ c ≤ 937 ∧ c ≠ 930) ∨ (1040 ≤ c ∧ c ≤ 1071)
  · rw [if_pos h1, if_neg (by omega), if_neg (by omega)]
  · rw [if_neg h1]
    by_cases h2 : 1024 ≤ c ∧ c ≤ 1039
    · rw [if_pos h2, if_neg (by omega), if_neg (by omega)]
    · rw [if_neg h2, if_neg h1, if_neg h2]
theorem foldC_ok (l : List Int) (h : Okr l) : Okr (l.map foldC) := by
  intro r hr
  simp only [List.mem_map] at hr
  obtain ⟨c, hc, rfl⟩ := hr
  have := h c hc
  unfold foldC
  (repeat' split) <;> omega

end Go.Nst
end
section
namespace Go.Nst
set_option linter.unusedVariables false
set_option linter.unusedSimpArgs false

/-- is a folded rune a letter? -/
def letterB (c : Int) : Bool :=
  if c < 192 then (decide (97 ≤ c) && decide (c ≤ 122)) || (decide (48 ≤ c) && decide (c ≤ 57))
  else !(c == 215 || c == 247 || c == 65533 || (decide (8192 ≤ c) && decide (c ≤ 8303)) || (decide (12288 ≤ c) && decide (c ≤ 12351)))
/-- the runs of letters; cur: the letters just ahead -/
def runsF : List Int → List Int → List (List Int)
  | cur, [] => if cur = [] then [] else [cur]
  | cur, c :: t => if letterB c then runsF (cur ++ [c]) t else if cur = [] then runsF [] t else cur :: runsF [] t
def wordsR (l : List Int) : List (List Int) := (runsF [] l).map (·.take 32)
/-- a text's words -/
def wordsL (l : List UInt8) : List (List UInt8) := (wordsR ((runesI l).map foldC)).map putR
/-- is a text a word? -/
def wordB (l : List UInt8) : Bool := wordsL l == [l]

theorem putR_append (a b : List Int) : putR (a ++ b) = putR a ++ putR b := by simp [putR]
theorem putR_cons (c : Int) (t : List Int) : putR (c :: t) = Lib.encodeRune c ++ putR t := by simp [putR]
theorem norm_ok {c : Int} (h : 0 ≤ c ∧ c ≤ 1114111 ∧ ¬ (55296 ≤ c ∧ c ≤ 57343)) : (normR c : Int) = c := by unfold normR; rw [if_pos h]; omega

/-- the pieces of spans -/
def pieces (l : List UInt8) (x : List (Nat × Nat)) : List (List UInt8) := x.map fun y => (l.drop y.1).take (y.2 - y.1)
theorem pieces_append (l : List UInt8) (a b : List (Nat × Nat)) : pieces l (a ++ b) = pieces l a ++ pieces l b := by simp [pieces]
theorem piece_mid (a b c : List UInt8) : pieces (a ++ b ++ c) [(a.length, (a ++ b).length)] = [b] := by
  simp [pieces, List.append_assoc]
theorem mk_size (l : List UInt8) : (ByteArray.mk l.toArray).size = l.length := by simp [ByteArray.size]

theorem spans_runs (rs : List Int) (hok : Okr rs) : ∀ (rest d0 cur : List Int) (f : Nat) (st : Option Nat) (acc : List (Nat × Nat)), rs = d0 ++ cur ++ rest → rest.length ≤ f → ((st = none ∧ cur = []) ∨ (st = some (putR d0).length ∧ cur ≠ [])) →
    pieces (putR rs) (Lib.closeSpans ⟨(putR rs).toArray⟩ (Lib.spansFromP (fun x => !letterB (x : Int)) ⟨(putR rs).toArray⟩ f (putR (d0 ++ cur)).length st acc)) = pieces (putR rs) acc ++ (runsF cur rest).map putR
  | [], d0, cur, f, st, acc, hr, _, hst => by
    have hpos : ¬ (putR (d0 ++ cur)).length < (ByteArray.mk (putR rs).toArray).size := by rw [mk_size, hr]; simp
    rw [Lib.spansFromP_end _ _ _ _ _ _ hpos]
    rcases hst with ⟨rfl, rfl⟩ | ⟨rfl, hne⟩
    · simp [Lib.closeSpans, runsF]
    · simp only [Lib.closeSpans, runsF]
      rw [if_neg hne, pieces_append, mk_size]
      have h2 : rs = d0 ++ cur := by simpa using hr
      have h3 : putR rs = putR d0 ++ putR cur ++ [] := by rw [h2, putR_append]; simp
      have := piece_mid (putR d0) (putR cur) []
      rw [← h3] at this
      have h4 : (putR d0 ++ putR cur).length = (putR rs).length := by rw [h3]; simp
      rw [h4] at this
      rw [this]
      simp
  | c :: t, d0, cur, 0, st, acc, hr, hf, hst => by simp at hf
  | c :: t, d0, cur, f + 1, st, acc, hr, hf, hst => by
    have hc := hok c (by rw [hr]; simp)
    have hdrop : (putR rs).drop (putR (d0 ++ cur)).length = Lib.encodeRune c ++ putR t := by
      rw [hr, putR_append (d0 ++ cur), putR_cons, List.drop_left]
    have hlt : (putR (d0 ++ cur)).length < (putR rs).length := by
      have := enc_ne c (putR t)
      rcases Nat.lt_or_ge (putR (d0 ++ cur)).length (putR rs).length with h | h
      · exact h
      · rw [List.drop_of_length_le h] at hdrop
        exact absurd hdrop.symm this
    have hdec : Utf8.decode ⟨(putR rs).toArray⟩ (putR (d0 ++ cur)).length = (normR c, (Lib.encodeRune c).length) := by
      rw [decode_first _ _ hlt, hdrop, first_enc]
    have hlen : (putR (d0 ++ cur)).length + (Lib.encodeRune c).length = (putR (d0 ++ (cur ++ [c]))).length := by
      rw [← List.append_assoc, putR_append (d0 ++ cur) [c], List.length_append]
      simp [putR]
    unfold Lib.spansFromP
    rw [if_pos (by rw [mk_size]; exact hlt), hdec]
    simp only [norm_ok hc]
    by_cases hl : letterB c = true
    · rw [hl]
      simp only [Bool.not_true, Bool.false_eq_true, if_false]
      have hrun : runsF cur (c :: t) = runsF (cur ++ [c]) t := by simp only [runsF]; rw [if_pos hl]
      rw [hrun, hlen]
      rcases hst with ⟨rfl, rfl⟩ | ⟨rfl, hne⟩
      · simp only
        have := spans_runs rs hok t d0 [c] f (some (putR d0).length) acc (by rw [hr]; simp) (by simp at hf; omega) (.inr ⟨rfl, by simp⟩)
        simpa using this
      · simp only
        exact spans_runs rs hok t d0 (cur ++ [c]) f (some (putR d0).length) acc (by rw [hr]; simp) (by simp at hf; omega) (.inr ⟨rfl, by simp⟩)
    · have hl' : letterB c = false := by simpa using hl
      rw [hl']
      simp only [Bool.not_false, if_true]
      rw [hlen]
      rcases hst with ⟨rfl, rfl⟩ | ⟨rfl, hne⟩
      · have hrun : runsF [] (c :: t) = runsF [] t := by simp only [runsF]; rw [if_neg hl]; simp
        rw [hrun]
        simp only
        have := spans_runs rs hok t (d0 ++ [c]) [] f none acc (by rw [hr]; simp) (by simp at hf; omega) (.inl ⟨rfl, rfl⟩)
        simpa using this
      · have hrun : runsF cur (c :: t) = cur :: runsF [] t := by simp only [runsF]; rw [if_neg hl, if_neg hne]
        rw [hrun]
        simp only
        have ih := spans_runs rs hok t (d0 ++ cur ++ [c]) [] f none (acc ++ [((putR d0).length, (putR (d0 ++ cur)).length)]) (by rw [hr]; simp) (by simp at hf; omega) (.inl ⟨rfl, rfl⟩)
        rw [List.append_nil, List.append_assoc] at ih
        rw [ih, pieces_append]
        have h3 : putR rs = putR d0 ++ putR cur ++ (Lib.encodeRune c ++ putR t) := by rw [hr, putR_append, putR_append, putR_cons]
        have := piece_mid (putR d0) (putR cur) (Lib.encodeRune c ++ putR t)
        rw [← h3] at this
        rw [putR_append, this]
        simp
theorem put_len_ge (l : List Int) : l.length ≤ (putR l).length := by
  induction l with
  | nil => simp [putR]
  | cons c t ih =>
    have := Lib.runeCells_le c
    rw [Lib.runeCells_length] at this
    rw [putR_cons, List.length_append, List.length_cons]
    omega
theorem fields_runs (rs : List Int) (hok : Okr rs) : Lib.goFieldsP (fun x => !letterB (x : Int)) ⟨(putR rs).toArray⟩ = (runsF [] rs).map fun r => ⟨(putR r).toArray⟩ := by
  have h := spans_runs rs hok rs [] [] (ByteArray.mk (putR rs).toArray).size none [] (by simp) (by rw [mk_size]; exact put_len_ge rs) (.inl ⟨rfl, rfl⟩)
  have h0 : (putR ([] ++ ([] : List Int))).length = 0 := rfl
  rw [h0] at h
  unfold Lib.goFieldsP Lib.spansOfP
  generalize Lib.closeSpans _ _ = sp at *
  have e : ∀ x : Nat × Nat, (ByteArray.mk (putR rs).toArray).extract x.1 x.2 = ⟨(((putR rs).drop x.1).take (x.2 - x.1)).toArray⟩ := by
    intro x
    apply ByteArray.ext
    rw [ByteArray.data_extract]
    simp [List.drop_take]
  rw [show (sp.map fun x => (ByteArray.mk (putR rs).toArray).extract x.1 x.2) = (pieces (putR rs) sp).map fun l => ⟨l.toArray⟩ by
    unfold pieces; rw [List.map_map]; exact List.map_congr_left fun x _ => e x]
  rw [h]
  simp [pieces, List.map_map, Function.comp]
theorem runs_ok : ∀ (rest cur : List Int), Okr cur → Okr rest → ∀ r ∈ runsF cur rest, Okr r
  | [], cur, hc, _, r, hr => by
    simp only [runsF] at hr
    split at hr
    · simp at hr
    · simp at hr; subst hr; exact hc
  | c :: t, cur, hc, ht, r, hr => by
    have hc1 := ht c (by simp)
    have ht' : Okr t := fun x hx => ht x (by simp [hx])
    simp only [runsF] at hr
    split at hr
    · exact runs_ok t (cur ++ [c]) (fun x hx => by simp at hx; rcases hx with hx | rfl; (· exact hc x hx); (· exact hc1)) ht' r hr
    · split at hr
      · exact runs_ok t [] (fun x hx => by simp at hx) ht' r hr
      · simp at hr
        rcases hr with rfl | hr
        · exact hc
        · exact runs_ok t [] (fun x hx => by simp at hx) ht' r hr
theorem runs_len : ∀ (rest cur : List Int), ((runsF cur rest).map List.length).sum ≤ cur.length + rest.length ∧ (runsF cur rest).length ≤ cur.length + rest.length
  | [], cur => by
    simp only [runsF]
    split
    · simp
    · rename_i h
      have : 0 < cur.length := by cases cur with | nil => exact absurd rfl h | cons => simp
      simp; omega
  | c :: t, cur => by
    simp only [runsF]
    split
    · have := runs_len t (cur ++ [c]); simp at this ⊢; omega
    · split
      · rename_i h; subst h; have := runs_len t []; simp at this ⊢; omega
      · rename_i h
        have hp : 0 < cur.length := by cases cur with | nil => exact absurd rfl h | cons => simp
        have := runs_len t []; simp at this ⊢; omega
end Go.Nst
end
section
namespace Go.Nst

end Go.Nst
end
section
namespace Go.Nst

def st (c : Nat) : Nat := if c % 2 = 1 then (c / 2) ^^^ 3988292384 else c / 2
end Go.Nst
end
section
namespace Go.Nst
set_option linter.unusedVariables false
set_option linter.unusedSimpArgs false

def leapB (y : Int) : Bool := decide (y % 4 = 0) && (!decide (y % 100 = 0) || decide (y % 400 = 0))
def daysM (y m : Int) : Int := if y < 1 ∨ 9999 < y ∨ m < 1 ∨ 12 < m then 0 else if m = 2 then (if leapB y then 29 else 28) else 30 + (m + m / 8) % 2
def daysC (y m d : Int) : Int := if m - 3 < 0 then 146097 * ((y - 1) / 400) + 365 * ((y - 1) % 400) + (y - 1) % 400 / 4 - (y - 1) % 400 / 100 + (153 * (m + 9) + 2) / 5 + d - 1 - 719468 else 146097 * (y / 400) + 365 * (y % 400) + y % 400 / 4 - y % 400 / 100 + (153 * (m - 3) + 2) / 5 + d - 1 - 719468
def aheadY (y : Int) : Int := 365 * (y - 1) + (y - 1) / 4 - (y - 1) / 100 + (y - 1) / 400
def cumN (y : Int) : Nat → Int
  | 0 => 0
  | k + 1 => cumN y k + (if k = 0 then 0 else daysM y k)
def dayR (y : Int) (m : Nat) (d : Int) : Int := aheadY y + d - 1 + cumN y m
theorem daysM_in {y : Int} {m : Int} (h0 : 1 ≤ y) (h1 : y ≤ 9999) (h2 : 1 ≤ m) (h3 : m ≤ 12) : daysM y m = if m = 2 then (if leapB y then 29 else 28) else 30 + (m + m / 8) % 2 := by
  unfold daysM
  rw [if_neg (by omega)]
theorem days_y (y : Int) : 146097 * (y / 400) + 365 * (y % 400) + y % 400 / 4 - y % 400 / 100 = 365 * y + y / 4 - y / 100 + y / 400 := by omega
def cumT (y : Int) (m : Nat) : Int := match m with
  | 1 => 0 | 2 => 31 | 3 => 59 + (if leapB y then 1 else 0) | 4 => 90 + (if leapB y then 1 else 0) | 5 => 120 + (if leapB y then 1 else 0) | 6 => 151 + (if leapB y then 1 else 0) | 7 => 181 + (if leapB y then 1 else 0) | 8 => 212 + (if leapB y then 1 else 0) | 9 => 243 + (if leapB y then 1 else 0) | 10 => 273 + (if leapB y then 1 else 0) | 11 => 304 + (if leapB y then 1 else 0) | 12 => 334 + (if leapB y then 1 else 0) | _ => 0
theorem cum_T (y : Int) (m : Nat) (h0 : 1 ≤ y) (h1 : y ≤ 9999) (hm : 1 ≤ m) (hm2 : m ≤ 12) : cumN y m = cumT y m := by
  have D : ∀ k : Int, 1 ≤ k → k ≤ 12 → daysM y k = if k = 2 then (if leapB y then 29 else 28) else 30 + (k + k / 8) % 2 := fun k a b => daysM_in h0 h1 a b
  have c1 : cumN y 1 = 0 := rfl
  have S : ∀ k : Nat, 1 ≤ k → cumN y (k + 1) = cumN y k + daysM y k := fun k h => by simp only [cumN]; rw [if_neg (by omega)]
  have c2 : cumN y 2 = 31 := by rw [S 1 (by omega), c1, D _ (by decide) (by decide)]; rfl
  have c3 : cumN y 3 = 59 + (if leapB y then 1 else 0) := by rw [S 2 (by omega), c2, D _ (by decide) (by decide), if_pos (by decide)]; split <;> rfl
  have d3 : daysM y ((3 : Nat) : Int) = 31 := (D 3 (by decide) (by decide)).trans rfl
  have c4 : cumN y 4 = 90 + (if leapB y then 1 else 0) := by rw [S 3 (by omega), c3, d3]; omega
  have d4 : daysM y ((4 : Nat) : Int) = 30 := (D 4 (by decide) (by decide)).trans rfl
  have c5 : cumN y 5 = 120 + (if leapB y then 1 else 0) := by rw [S 4 (by omega), c4, d4]; omega
  have d5 : daysM y ((5 : Nat) : Int) = 31 := (D 5 (by decide) (by decide)).trans rfl
  have c6 : cumN y 6 = 151 + (if leapB y then 1 else 0) := by rw [S 5 (by omega), c5, d5]; omega
  have d6 : daysM y ((6 : Nat) : Int) = 30 := (D 6 (by decide) (by decide)).trans rfl
  have c7 : cumN y 7 = 181 + (if leapB y then 1 else 0) := by rw [S 6 (by omega), c6, d6]; omega
  have d7 : daysM y ((7 : Nat) : Int) = 31 := (D 7 (by decide) (by decide)).trans rfl
  have c8 : cumN y 8 = 212 + (if leapB y then 1 else 0) := by rw [S 7 (by omega), c7, d7]; omega
  have d8 : daysM y ((8 : Nat) : Int) = 31 := (D 8 (by decide) (by decide)).trans rfl
  have c9 : cumN y 9 = 243 + (if leapB y then 1 else 0) := by rw [S 8 (by omega), c8, d8]; omega
  have d9 : daysM y ((9 : Nat) : Int) = 30 := (D 9 (by decide) (by decide)).trans rfl
  have c10 : cumN y 10 = 273 + (if leapB y then 1 else 0) := by rw [S 9 (by omega), c9, d9]; omega
  have d10 : daysM y ((10 : Nat) : Int) = 31 := (D 10 (by decide) (by decide)).trans rfl
  have c11 : cumN y 11 = 304 + (if leapB y then 1 else 0) := by rw [S 10 (by omega), c10, d10]; omega
  have d11 : daysM y ((11 : Nat) : Int) = 30 := (D 11 (by decide) (by decide)).trans rfl
  have c12 : cumN y 12 = 334 + (if leapB y then 1 else 0) := by rw [S 11 (by omega), c11, d11]; omega
  match m, hm, hm2 with
  | 1, _, _ => exact c1
  | 2, _, _ => exact c2
  | 3, _, _ => exact c3
  | 4, _, _ => exact c4
  | 5, _, _ => exact c5
  | 6, _, _ => exact c6
  | 7, _, _ => exact c7
  | 8, _, _ => exact c8
  | 9, _, _ => exact c9
  | 10, _, _ => exact c10
  | 11, _, _ => exact c11
  | 12, _, _ => exact c12
theorem leap_num (y : Int) : (if leapB y then (1 : Int) else 0) = y / 4 - (y - 1) / 4 - (y / 100 - (y - 1) / 100) + (y / 400 - (y - 1) / 400) := by
  unfold leapB
  by_cases a : y % 4 = 0 <;> by_cases b : y % 100 = 0 <;> by_cases c : y % 400 = 0 <;> simp [a, b, c] <;> omega
theorem days_same (y : Int) (m : Nat) (d : Int) (h0 : 1 ≤ y) (h1 : y ≤ 9999) (hm : 1 ≤ m) (hm2 : m ≤ 12) : daysC y m d = dayR y m d - 719162 := by
  unfold dayR aheadY
  rw [cum_T y m h0 h1 hm hm2]
  have e1 := days_y y
  have e2 := days_y (y - 1)
  have el := leap_num y
  unfold daysC
  match m, hm, hm2 with
  | 1, _, _ => rw [if_pos (by decide), e2]; simp only [cumT]; omega
  | 2, _, _ => rw [if_pos (by decide), e2]; simp only [cumT]; omega
  | 3, _, _ => rw [if_neg (by decide), e1]; simp only [cumT]; omega
  | 4, _, _ => rw [if_neg (by decide), e1]; simp only [cumT]; omega
  | 5, _, _ => rw [if_neg (by decide), e1]; simp only [cumT]; omega
  | 6, _, _ => rw [if_neg (by decide), e1]; simp only [cumT]; omega
  | 7, _, _ => rw [if_neg (by decide), e1]; simp only [cumT]; omega
  | 8, _, _ => rw [if_neg (by decide), e1]; simp only [cumT]; omega
  | 9, _, _ => rw [if_neg (by decide), e1]; simp only [cumT]; omega
  | 10, _, _ => rw [if_neg (by decide), e1]; simp only [cumT]; omega
  | 11, _, _ => rw [if_neg (by decide), e1]; simp only [cumT]; omega
  | 12, _, _ => rw [if_neg (by decide), e1]; simp only [cumT]; omega

structure Dt where
  y : Int
  m : Int
  d : Int
  h : Int
  mi : Int
  s : Int
deriving DecidableEq
def Dt.zero : Dt := ⟨0, 0, 0, 0, 0, 0⟩
def Dt.ok (x : Dt) : Bool := decide (1 ≤ x.d) && decide (x.d ≤ daysM x.y x.m) && decide (0 ≤ x.h) && decide (x.h ≤ 23) && decide (0 ≤ x.mi) && decide (x.mi ≤ 59) && decide (0 ≤ x.s) && decide (x.s ≤ 59)
def Dt.mom (x : Dt) : Int := 86400 * daysC x.y x.m x.d + 3600 * x.h + 60 * x.mi + x.s
def mayM (n : Int) : Bool := decide (-62135596800 ≤ n) && decide (n ≤ 253402300799)
/-- days since 0000-03-01, parted: the day of its 400 years, its year in them, the day of that year, that year's month -/
def ofN (n : Int) : Int := (n + 62135596800) / 86400 + 306
def ofO (n : Int) : Int := ofN n % 146097
def ofY (n : Int) : Int := (ofO n - ofO n / 1460 + ofO n / 36524 - ofO n / 146096) / 365
def ofI (n : Int) : Int := ofO n - (365 * ofY n + ofY n / 4 - ofY n / 100)
def ofM (n : Int) : Int := (5 * ofI n + 2) / 153
def ofD (n : Int) : Dt :=
  if 12 < ofM n + 3 then ⟨ofY n + 400 * (ofN n / 146097) + 1, ofM n + 3 - 12, ofI n - (153 * ofM n + 2) / 5 + 1, (n + 62135596800) % 86400 / 3600, (n + 62135596800) % 86400 / 60 % 60, (n + 62135596800) % 86400 % 60⟩
  else ⟨ofY n + 400 * (ofN n / 146097), ofM n + 3, ofI n - (153 * ofM n + 2) / 5 + 1, (n + 62135596800) % 86400 / 3600, (n + 62135596800) % 86400 / 60 % 60, (n + 62135596800) % 86400 % 60⟩
theorem dayR_1970 : dayR 1970 1 1 = 719162 := by decide
theorem dayR_last : dayR 9999 12 31 = 3652058 := by decide +kernel
end Go.Nst
end
end
