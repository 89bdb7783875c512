/-
  Numbers as bytes, in plain Lean: what is put is got, what is got is put so.
-/
namespace Go.Nst

/-- may it be a number? -/
def mayB (n : Int) : Bool := decide (-9007199254740991 ≤ n) && decide (n ≤ 9007199254740991)
theorem mayB_iff (n : Int) : mayB n = true ↔ -9007199254740991 ≤ n ∧ n ≤ 9007199254740991 := by simp [mayB]
theorem mayB_no (n : Int) : mayB n = false ↔ ¬ (-9007199254740991 ≤ n ∧ n ≤ 9007199254740991) := by
  rw [← mayB_iff]; simp
/-- folded -/
def zig (n : Int) : Nat := if 0 ≤ n then (2 * n).toNat else (-2 * n - 1).toNat
def zag (x : Nat) : Int := if x % 2 = 1 then -((x / 2 : Nat) : Int) - 1 else ((x / 2 : Nat) : Int)
theorem zag_zig (n : Int) : zag (zig n) = n := by
  unfold zag zig
  by_cases h : 0 ≤ n
  · rw [if_pos h, if_neg (by omega)]; omega
  · rw [if_neg h, if_pos (by omega)]; omega
theorem zig_zag (x : Nat) : zig (zag x) = x := by
  unfold zag zig
  by_cases h : x % 2 = 1
  · rw [if_pos h, if_neg (by omega)]; omega
  · rw [if_neg h, if_pos (by omega)]; omega
theorem zig_lt {n : Int} (h : mayB n = true) : zig n < 18014398509481984 := by
  rw [mayB_iff] at h
  unfold zig
  split <;> omega

/-- the bytes of a folded number -/
def putF : Nat → Nat → List UInt8
  | 0, x => [UInt8.ofNat x]
  | f + 1, x => if x < 128 then [UInt8.ofNat x] else UInt8.ofNat (x % 128 + 128) :: putF f (x / 128)
def putL (x : Nat) : List UInt8 := putF 10 x
theorem putF_more (f g x : Nat) (h : x < 128 ^ (f + 1)) (hg : f ≤ g) : putF g x = putF f x := by
  induction f generalizing g x with
  | zero =>
    cases g with
    | zero => rfl
    | succ g => simp only [putF]; rw [if_pos (by omega)]
  | succ f ih =>
    cases g with
    | zero => omega
    | succ g =>
      simp only [putF]
      by_cases hx : x < 128
      · rw [if_pos hx, if_pos hx]
      · rw [if_neg hx, if_neg hx, ih g (x / 128) (by rw [Nat.pow_succ] at h; exact Nat.div_lt_of_lt_mul (by omega)) (by omega)]
theorem putL_small {x : Nat} (h : x < 128) : putL x = [UInt8.ofNat x] := by
  unfold putL
  simp only [putF]
  rw [if_pos h]
theorem putL_big {x : Nat} (h : ¬ x < 128) (hx : x < 1180591620717411303424) : putL x = UInt8.ofNat (x % 128 + 128) :: putL (x / 128) := by
  unfold putL
  rw [putF_more 9 10 (x / 128) (by omega) (by omega)]
  conv => lhs; rw [putF]
  rw [if_neg h]

/-- the number with which bytes begin -/
def getGo : Nat → Nat → List UInt8 → Option (Int × Nat)
  | _, _, [] => none
  | i, x, c :: l =>
    if 8 ≤ i then none
    else if 128 ≤ c.toNat then getGo (i + 1) (x + c.toNat % 128 * 128 ^ i) l
    else if 0 < i ∧ c.toNat = 0 then none
    else if mayB (zag (x + c.toNat % 128 * 128 ^ i)) = true then some (zag (x + c.toNat % 128 * 128 ^ i), i + 1) else none
def getL (l : List UInt8) : Option (Int × Nat) := getGo 0 0 l

theorem u8_of (x : Nat) (h : x < 256) : (UInt8.ofNat x).toNat = x := by rw [UInt8.toNat_ofNat']; omega

theorem get_put_go (f i x y : Nat) (b : List UInt8) (hi : i < 8) (hy : y < 128 ^ (8 - i)) (hf : y < 128 ^ (f + 1)) (h0 : i = 0 ∨ 0 < y) (hm : mayB (zag (x + y * 128 ^ i)) = true) :
    getGo i x (putF f y ++ b) = some (zag (x + y * 128 ^ i), i + (putF f y).length) := by
  have small : y < 128 → getGo i x ([UInt8.ofNat y] ++ b) = some (zag (x + y * 128 ^ i), i + 1) := by
    intro hs
    have hu := u8_of y (by omega)
    simp only [List.cons_append, List.nil_append, getGo, hu]
    rw [if_neg (by omega), if_neg (by omega), if_neg (by omega), Nat.mod_eq_of_lt hs, if_pos hm]
  induction f generalizing i x y with
  | zero => exact small (by omega)
  | succ f ih =>
    simp only [putF]
    by_cases hs : y < 128
    · rw [if_pos hs]; exact small hs
    · rw [if_neg hs]
      have hu := u8_of (y % 128 + 128) (by omega)
      have hi7 : i < 7 := by
        rcases Nat.lt_or_ge i 7 with h | h
        · exact h
        · exfalso
          have : i = 7 := by omega
          subst this
          simp at hy
          omega
      have e : x + (y % 128 + 128) % 128 * 128 ^ i + y / 128 * 128 ^ (i + 1) = x + y * 128 ^ i := by
        have h1 : (y % 128 + 128) % 128 = y % 128 := by omega
        have h2 : y * 128 ^ i = (y % 128 + 128 * (y / 128)) * 128 ^ i := by rw [Nat.mod_add_div]
        rw [h1, h2, Nat.pow_succ, Nat.add_mul, Nat.add_assoc]
        congr 2
        rw [Nat.mul_comm (128 ^ i) 128, ← Nat.mul_assoc, Nat.mul_comm (y / 128) 128]
      simp only [List.cons_append, getGo, hu]
      rw [if_neg (by omega), if_pos (by omega)]
      rw [ih (i + 1) (x + (y % 128 + 128) % 128 * 128 ^ i) (y / 128) (by omega)
        (by
          have : 8 - i = 8 - (i + 1) + 1 := by omega
          rw [this, Nat.pow_succ] at hy
          exact Nat.div_lt_of_lt_mul (by omega))
        (by rw [Nat.pow_succ] at hf; exact Nat.div_lt_of_lt_mul (by omega)) (.inr (by omega)) (by rw [e]; exact hm)
        (fun hs => by
          have hu := u8_of (y / 128) (by omega)
          simp only [List.cons_append, List.nil_append, getGo, hu]
          rw [if_neg (by omega), if_neg (by omega), if_neg (by omega), Nat.mod_eq_of_lt hs, e, if_pos hm])]
      rw [e]
      simp only [List.length_cons, Option.some.injEq, Prod.mk.injEq, true_and]
      omega
theorem get_put {n : Int} (h : mayB n = true) (b : List UInt8) : getL (putL (zig n) ++ b) = some (n, (putL (zig n)).length) := by
  have hz := zig_lt h
  have := get_put_go 10 0 0 (zig n) b (by omega) (by simp; omega) (by simp; omega) (.inl rfl) (by simpa [zag_zig] using h)
  simp only [Nat.pow_zero, Nat.mul_one, Nat.zero_add, zag_zig] at this
  exact this

theorem put_get_go (b : List UInt8) (i x : Nat) (n : Int) (k : Nat) (h : getGo i x b = some (n, k)) :
    ∃ y, n = zag (x + y * 128 ^ i) ∧ i < k ∧ k ≤ 8 ∧ k - i ≤ b.length ∧ y < 128 ^ (k - i) ∧ putL y = b.take (k - i) ∧ (i = 0 ∨ 0 < y) ∧ mayB n = true := by
  induction b generalizing i x with
  | nil => simp [getGo] at h
  | cons c l ih =>
    have hc := c.toNat_lt
    simp only [getGo] at h
    by_cases h8 : 8 ≤ i
    · rw [if_pos h8] at h; cases h
    rw [if_neg h8] at h
    by_cases h7 : 128 ≤ c.toNat
    · rw [if_pos h7] at h
      obtain ⟨y, e1, e2, e3, e4, e5, e6, e7, e8⟩ := ih _ _ h
      have hy : 0 < y := by rcases e7 with e7 | e7 <;> omega
      have hk : k - i = k - (i + 1) + 1 := by omega
      have hyb : y < 128 ^ 7 := Nat.lt_of_lt_of_le e5 (Nat.pow_le_pow_right (by omega) (by omega))
      refine ⟨c.toNat % 128 + 128 * y, ?_, by omega, e3, by simp; omega, ?_, ?_, .inr (by omega), e8⟩
      · rw [e1]
        congr 1
        rw [Nat.pow_succ, Nat.add_mul, Nat.add_assoc]
        congr 2
        rw [Nat.mul_comm (128 ^ i) 128, ← Nat.mul_assoc, Nat.mul_comm y 128]
      · rw [hk, Nat.pow_succ]
        omega
      · rw [putL_big (by omega) (by simp at hyb; omega)]
        have h1 : (c.toNat % 128 + 128 * y) % 128 + 128 = c.toNat := by omega
        have h2 : (c.toNat % 128 + 128 * y) / 128 = y := by omega
        rw [h1, h2, e6, hk, List.take_succ_cons]
        simp
    · rw [if_neg h7] at h
      by_cases h0 : 0 < i ∧ c.toNat = 0
      · rw [if_pos h0] at h; cases h
      rw [if_neg h0] at h
      by_cases hm : mayB (zag (x + c.toNat % 128 * 128 ^ i)) = true
      · rw [if_pos hm] at h
        injection h with h
        injection h with h1 h2
        subst h1
        subst h2
        have e : c.toNat % 128 = c.toNat := by omega
        refine ⟨c.toNat, by rw [e], by omega, by omega, by simp, by rw [show i + 1 - i = 1 by omega]; omega, ?_, by omega, hm⟩
        rw [putL_small (by omega), show i + 1 - i = 1 by omega]
        simp
      · rw [if_neg hm] at h; cases h
theorem put_get {b : List UInt8} {n : Int} {k : Nat} (h : getL b = some (n, k)) : putL (zig n) = b.take k ∧ mayB n = true ∧ k ≤ b.length ∧ 0 < k ∧ k ≤ 8 := by
  obtain ⟨y, e1, e2, e3, e4, _, e6, _, e8⟩ := put_get_go b 0 0 n k h
  simp only [Nat.pow_zero, Nat.mul_one, Nat.zero_add, Nat.sub_zero] at *
  exact ⟨by rw [e1, zig_zag]; exact e6, e8, e4, e2, e3⟩
theorem putF_len (f x : Nat) : 0 < (putF f x).length ∧ (putF f x).length ≤ f + 1 := by
  induction f generalizing x with
  | zero => simp [putF]
  | succ f ih =>
    simp only [putF]
    split
    · simp
    · have := ih (x / 128); simp only [List.length_cons]; omega
theorem putL_len (x : Nat) : 0 < (putL x).length ∧ (putL x).length ≤ 11 := putF_len 10 x

/-- what a round of putting leaves -/
theorem put_round {p : List UInt8} {x0 x : Nat} (h : putL x0 = p ++ putL x) (hb : ¬ x < 128) (hx : x < 1180591620717411303424) : putL x0 = (p ++ [UInt8.ofNat (x % 128 + 128)]) ++ putL (x / 128) := by
  rw [h, putL_big hb hx]; simp
theorem put_end {p : List UInt8} {x0 x : Nat} (h : putL x0 = p ++ putL x) (hb : x < 128) : p ++ [UInt8.ofNat x] = putL x0 := by
  rw [h, putL_small hb]

/-- what a round of getting leaves -/
theorem get_more {l : List UInt8} {r : Option (Int × Nat)} {k y : Nat} {u : UInt8} (h : r = getGo k y (l.drop k)) (hu : l[k]? = some u) (hk : k < 8) (h7 : 128 ≤ u.toNat) : r = getGo (k + 1) (y + u.toNat % 128 * 128 ^ k) (l.drop (k + 1)) := by
  have hl : k < l.length := (List.getElem?_eq_some_iff.1 hu).1
  have e : l.drop k = u :: l.drop (k + 1) := by
    rw [List.drop_eq_getElem_cons hl]
    rw [List.getElem?_eq_getElem hl] at hu
    injection hu with hu
    rw [hu]
  rw [h, e]
  simp only [getGo]
  rw [if_neg (by omega), if_pos h7]
theorem get_last {l : List UInt8} {r : Option (Int × Nat)} {k y : Nat} {u : UInt8} (h : r = getGo k y (l.drop k)) (hu : l[k]? = some u) (hk : k < 8) (h7 : ¬ 128 ≤ u.toNat) :
    r = if 0 < k ∧ u.toNat = 0 then none else if mayB (zag (y + u.toNat % 128 * 128 ^ k)) = true then some (zag (y + u.toNat % 128 * 128 ^ k), k + 1) else none := by
  have hl : k < l.length := (List.getElem?_eq_some_iff.1 hu).1
  have e : l.drop k = u :: l.drop (k + 1) := by
    rw [List.drop_eq_getElem_cons hl]
    rw [List.getElem?_eq_getElem hl] at hu
    injection hu with hu
    rw [hu]
  rw [h, e]
  simp only [getGo]
  rw [if_neg (by omega), if_neg h7]
theorem get_end {l : List UInt8} {r : Option (Int × Nat)} {k y : Nat} (h : r = getGo k y (l.drop k)) (hk : l.length ≤ k ∨ 8 ≤ k) : r = none := by
  rw [h]
  cases hd : l.drop k with
  | nil => rfl
  | cons c t =>
    simp only [getGo]
    rw [if_pos]
    rcases hk with hk | hk
    · rw [List.drop_eq_nil_of_le hk] at hd; cases hd
    · exact hk
theorem get_bound {y u k : Nat} (hy : y < 128 ^ k) (hk : k < 8) : y + u % 128 * 128 ^ k < 128 ^ (k + 1) ∧ u % 128 * 128 ^ k < 72057594037927936 ∧ y + u % 128 * 128 ^ k < 72057594037927936 := by
  have h1 : y + u % 128 * 128 ^ k < 128 ^ (k + 1) := by
    rw [Nat.pow_succ]
    have : (u % 128 + 1) * 128 ^ k ≤ 128 * 128 ^ k := Nat.mul_le_mul_right _ (by omega)
    rw [Nat.add_mul, Nat.one_mul] at this
    rw [Nat.mul_comm (128 ^ k) 128]
    omega
  have h2 : 128 ^ (k + 1) ≤ 128 ^ 8 := Nat.pow_le_pow_right (by omega) (by omega)
  simp at h2
  exact ⟨h1, by omega, by omega⟩
end Go.Nst
