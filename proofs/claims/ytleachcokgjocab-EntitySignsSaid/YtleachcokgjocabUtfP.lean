/-
  Texts of runes, in plain Lean: the first rune of bytes as the document has it; that the model's own decoder tells the same.
-/
import Derived.WalkKit
import Derived.Lib.RuneBytes
namespace Go.Nst
set_option linter.unusedVariables false
set_option linter.unusedSimpArgs false

def tailB (c : UInt8) : Bool := decide (128 ≤ c.toNat) && decide (c.toNat < 192)
def okR (r : Nat) : Bool := decide (r ≤ 1114111) && !(decide (55296 ≤ r) && decide (r ≤ 57343))

/-- the first rune, and how many bytes it has -/
def firstL : List UInt8 → Nat × Nat
  | [] => (65533, 1)
  | c :: t =>
    if c.toNat < 128 then (c.toNat, 1)
    else if 192 ≤ c.toNat ∧ c.toNat < 224 then
      match t with
      | d :: _ => if tailB d && decide (128 ≤ (c.toNat - 192) * 64 + (d.toNat - 128)) then ((c.toNat - 192) * 64 + (d.toNat - 128), 2) else (65533, 1)
      | _ => (65533, 1)
    else if 224 ≤ c.toNat ∧ c.toNat < 240 then
      match t with
      | d :: e :: _ => if tailB d && tailB e && decide (2048 ≤ ((c.toNat - 224) * 64 + (d.toNat - 128)) * 64 + (e.toNat - 128)) && okR (((c.toNat - 224) * 64 + (d.toNat - 128)) * 64 + (e.toNat - 128)) then (((c.toNat - 224) * 64 + (d.toNat - 128)) * 64 + (e.toNat - 128), 3) else (65533, 1)
      | _ => (65533, 1)
    else if 240 ≤ c.toNat ∧ c.toNat < 248 then
      match t with
      | d :: e :: f :: _ => if tailB d && tailB e && tailB f && decide (65536 ≤ (((c.toNat - 240) * 64 + (d.toNat - 128)) * 64 + (e.toNat - 128)) * 64 + (f.toNat - 128)) && okR ((((c.toNat - 240) * 64 + (d.toNat - 128)) * 64 + (e.toNat - 128)) * 64 + (f.toNat - 128)) then ((((c.toNat - 240) * 64 + (d.toNat - 128)) * 64 + (e.toNat - 128)) * 64 + (f.toNat - 128), 4) else (65533, 1)
      | _ => (65533, 1)
    else (65533, 1)

theorem firstL_width (l : List UInt8) (h : l ≠ []) : 1 ≤ (firstL l).2 ∧ (firstL l).2 ≤ 4 ∧ (firstL l).2 ≤ l.length := by
  cases l with
  | nil => exact absurd rfl h
  | cons c t =>
    unfold firstL
    dsimp only
    (repeat' split) <;> simp <;> try omega
theorem firstL_rune (l : List UInt8) : (firstL l).1 ≤ 1114111 ∧ ¬ (55296 ≤ (firstL l).1 ∧ (firstL l).1 ≤ 57343) := by
  cases l with
  | nil => simp [firstL]
  | cons c t =>
    unfold firstL
    dsimp only
    (repeat' split) <;> simp_all [okR, tailB] <;> omega

def runesF : Nat → List UInt8 → List Nat
  | 0, _ => []
  | _ + 1, [] => []
  | k + 1, c :: t => (firstL (c :: t)).1 :: runesF k ((c :: t).drop (firstL (c :: t)).2)
/-- the runes of a text -/
def runesL (l : List UInt8) : List Nat := runesF l.length l
theorem runesF_fuel : ∀ (k m : Nat) (l : List UInt8), l.length ≤ k → l.length ≤ m → runesF k l = runesF m l
  | 0, m, l, hk, _ => by
    obtain rfl : l = [] := List.eq_nil_of_length_eq_zero (by omega)
    cases m <;> rfl
  | k + 1, 0, l, _, hm => by
    obtain rfl : l = [] := List.eq_nil_of_length_eq_zero (by omega)
    rfl
  | k + 1, m + 1, [], _, _ => rfl
  | k + 1, m + 1, c :: t, hk, hm => by
    have hw := firstL_width (c :: t) (by simp)
    simp only [runesF]
    rw [runesF_fuel k m _ (by simp at hk ⊢; omega) (by simp at hm ⊢; omega)]
theorem runesL_nil : runesL [] = [] := rfl
theorem runesL_step (l : List UInt8) (h : l ≠ []) : runesL l = (firstL l).1 :: runesL (l.drop (firstL l).2) := by
  cases l with
  | nil => exact absurd rfl h
  | cons c t =>
    have hw := firstL_width (c :: t) (by simp)
    unfold runesL
    simp only [List.length_cons, runesF]
    rw [runesF_fuel t.length _ _ (by simp at hw ⊢; omega) (Nat.le_refl _)]

/-- no bytes that are no rune's -/
def rightF : Nat → List UInt8 → Bool
  | 0, _ => true
  | _ + 1, [] => true
  | k + 1, c :: t => !((firstL (c :: t)).1 == 65533 && (firstL (c :: t)).2 == 1) && rightF k ((c :: t).drop (firstL (c :: t)).2)
def rightL (l : List UInt8) : Bool := rightF l.length l
theorem rightF_fuel : ∀ (k m : Nat) (l : List UInt8), l.length ≤ k → l.length ≤ m → rightF k l = rightF m l
  | 0, m, l, hk, _ => by
    obtain rfl : l = [] := List.eq_nil_of_length_eq_zero (by omega)
    cases m <;> rfl
  | k + 1, 0, l, _, hm => by
    obtain rfl : l = [] := List.eq_nil_of_length_eq_zero (by omega)
    rfl
  | k + 1, m + 1, [], _, _ => rfl
  | k + 1, m + 1, c :: t, hk, hm => by
    have hw := firstL_width (c :: t) (by simp)
    simp only [rightF]
    rw [rightF_fuel k m _ (by simp at hk ⊢; omega) (by simp at hm ⊢; omega)]
theorem rightL_step (l : List UInt8) (h : l ≠ []) : rightL l = (!((firstL l).1 == 65533 && (firstL l).2 == 1) && rightL (l.drop (firstL l).2)) := by
  cases l with
  | nil => exact absurd rfl h
  | cons c t =>
    have hw := firstL_width (c :: t) (by simp)
    unfold rightL
    simp only [List.length_cons, rightF]
    rw [rightF_fuel t.length _ _ (by simp at hw ⊢; omega) (Nat.le_refl _)]

/-- the model's decoder -/
theorem get_at (l : List UInt8) (i : Nat) (h : i < l.length) : (ByteArray.mk l.toArray).get! i = l[i] := by
  simp [ByteArray.get!, h]
theorem okR_valid (r : Nat) : Utf8.valid (r : Int) = okR r := by
  unfold Utf8.valid okR
  rw [Bool.eq_iff_iff]
  simp
  omega
theorem tail_iff (d : UInt8) : (d.toNat / 64 == 2) = tailB d := by
  have := d.toNat_lt
  rw [Bool.eq_iff_iff]
  simp [tailB]
  omega
theorem decode_first (l : List UInt8) (pos : Nat) (h : pos < l.length) : Utf8.decode ⟨l.toArray⟩ pos = firstL (l.drop pos) := by
  have hsz : (ByteArray.mk l.toArray).size = l.length := by simp [ByteArray.size]
  obtain ⟨c, t, hd⟩ : ∃ c t, l.drop pos = c :: t := by
    cases hl : l.drop pos with
    | nil => have := congrArg List.length hl; simp at this; omega
    | cons c t => exact ⟨c, t, rfl⟩
  have hlen : l.length = pos + 1 + t.length := by have := congrArg List.length hd; simp at this; omega
  have hg : ∀ k, pos + k < l.length → (ByteArray.mk l.toArray).get! (pos + k) = (c :: t)[k]?.getD 0 := by
    intro k hk
    rw [get_at l _ hk, ← hd, List.getElem?_drop, List.getElem?_eq_getElem hk]
    rfl
  have h0 := hg 0 (by omega)
  have hc := c.toNat_lt
  simp at h0
  unfold Utf8.decode
  simp only [hsz, hd, Nat.add_zero, h0]
  unfold firstL
  dsimp only
  by_cases a1 : c.toNat < 128
  · simp [a1]
  by_cases a2 : 192 ≤ c.toNat ∧ c.toNat < 224
  · have b1 : c.toNat / 32 = 6 := by omega
    have b2 : ¬ c.toNat / 16 = 14 := by omega
    have b3 : ¬ c.toNat / 8 = 30 := by omega
    cases t with
    | nil => simp at hlen; simp [a1, a2, b1, b2, b3, hlen, Utf8.runeError]
    | cons d t =>
      have h1 := hg 1 (by simp at hlen; omega)
      have hdl := d.toNat_lt
      simp at h1 hlen
      have q1 : pos + 1 < l.length := by omega
      simp only [h1, a1, a2, b1, b2, b3, q1, Utf8.runeError]
      have e1 : c.toNat % 32 = c.toNat - 192 := by omega
      by_cases t1 : d.toNat / 64 = 2
      · have e2 : d.toNat % 64 = d.toNat - 128 := by omega
        have t1' : tailB d = true := by simp [tailB]; omega
        simp [t1, t1', e1, e2]
      · have t1' : tailB d = false := by rw [Bool.eq_false_iff]; simp [tailB]; omega
        simp [t1, t1']
  by_cases a3 : 224 ≤ c.toNat ∧ c.toNat < 240
  · have b1 : ¬ c.toNat / 32 = 6 := by omega
    have b2 : c.toNat / 16 = 14 := by omega
    have b3 : ¬ c.toNat / 8 = 30 := by omega
    cases t with
    | nil => simp at hlen; simp [a1, a2, a3, b1, b2, b3, hlen, Utf8.runeError]
    | cons d t =>
      have h1 := hg 1 (by simp at hlen; omega)
      cases t with
      | nil => simp at hlen; simp [a1, a2, a3, b1, b2, b3, hlen, Utf8.runeError]
      | cons e t =>
        have h2 := hg 2 (by simp at hlen; omega)
        simp at h1 h2 hlen
        have q1 : pos + 1 < l.length := by omega
        have q2 : pos + 2 < l.length := by omega
        have e1 : c.toNat % 16 = c.toNat - 224 := by omega
        simp only [h1, h2, a1, a2, a3, b1, b2, b3, q1, q2, Utf8.runeError, tail_iff, okR_valid, e1]
        by_cases t1 : tailB d = true
        · by_cases t2 : tailB e = true
          · have e2 : d.toNat % 64 = d.toNat - 128 := by simp [tailB] at t1; omega
            have e3 : e.toNat % 64 = e.toNat - 128 := by simp [tailB] at t2; omega
            have e4 : (c.toNat - 224) * 4096 + (d.toNat - 128) * 64 + (e.toNat - 128) = ((c.toNat - 224) * 64 + (d.toNat - 128)) * 64 + (e.toNat - 128) := by omega
            rw [e2, e3, e4]
            simp [t1, t2, b1, b2, b3]
          · simp [t1, t2, b1, b2, b3]
        · simp [t1, b1, b2, b3]
  by_cases a4 : 240 ≤ c.toNat ∧ c.toNat < 248
  · have b1 : ¬ c.toNat / 32 = 6 := by omega
    have b2 : ¬ c.toNat / 16 = 14 := by omega
    have b3 : c.toNat / 8 = 30 := by omega
    cases t with
    | nil => simp at hlen; simp [a1, a2, a3, a4, b1, b2, b3, hlen, Utf8.runeError]
    | cons d t =>
      have h1 := hg 1 (by simp at hlen; omega)
      cases t with
      | nil => simp at hlen; simp [a1, a2, a3, a4, b1, b2, b3, hlen, Utf8.runeError]
      | cons e t =>
        have h2 := hg 2 (by simp at hlen; omega)
        cases t with
        | nil => simp at hlen; simp [a1, a2, a3, a4, b1, b2, b3, hlen, Utf8.runeError]
        | cons f t =>
          have h3 := hg 3 (by simp at hlen; omega)
          simp at h1 h2 h3 hlen
          have q1 : pos + 1 < l.length := by omega
          have q2 : pos + 2 < l.length := by omega
          have q3 : pos + 3 < l.length := by omega
          have e1 : c.toNat % 8 = c.toNat - 240 := by omega
          simp only [h1, h2, h3, a1, a2, a3, a4, b1, b2, b3, q1, q2, q3, Utf8.runeError, tail_iff, okR_valid, e1]
          by_cases t1 : tailB d = true
          · by_cases t2 : tailB e = true
            · by_cases t3 : tailB f = true
              · have e2 : d.toNat % 64 = d.toNat - 128 := by simp [tailB] at t1; omega
                have e3 : e.toNat % 64 = e.toNat - 128 := by simp [tailB] at t2; omega
                have e5 : f.toNat % 64 = f.toNat - 128 := by simp [tailB] at t3; omega
                have e4 : (c.toNat - 240) * 262144 + (d.toNat - 128) * 4096 + (e.toNat - 128) * 64 + (f.toNat - 128) = (((c.toNat - 240) * 64 + (d.toNat - 128)) * 64 + (e.toNat - 128)) * 64 + (f.toNat - 128) := by omega
                rw [e2, e3, e5, e4]
                simp [t1, t2, t3, b1, b2, b3]
              · simp [t1, t2, t3, b1, b2, b3]
            · simp [t1, t2, b1, b2, b3]
          · simp [t1, b1, b2, b3]
  · have b1 : ¬ c.toNat / 32 = 6 := by omega
    have b2 : ¬ c.toNat / 16 = 14 := by omega
    have b3 : ¬ c.toNat / 8 = 30 := by omega
    simp [a1, a2, a3, a4, b1, b2, b3, Utf8.runeError]
end Go.Nst
