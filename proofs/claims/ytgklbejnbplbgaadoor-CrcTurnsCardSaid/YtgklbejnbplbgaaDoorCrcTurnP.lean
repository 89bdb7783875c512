/-
  Sealed bytes of which some within 32 bits in a row are turned are not sealed: the plain law.
-/
import Derived.Test.YtgklbejnbplbgaaDoorCrcN
namespace Go.Proofs.YtgklbejnbplbgaaDoor
open Go.Nst

theorem splitk (k c : Nat) : c = (c % 2 ^ k) ^^^ (2 ^ k * (c / 2 ^ k)) := by
  apply Nat.eq_of_testBit_eq
  intro i
  rw [Nat.testBit_xor, Nat.testBit_mod_two_pow, Nat.testBit_two_pow_mul, Nat.testBit_div_two_pow]
  by_cases h : i < k
  · have h2 : ¬ k ≤ i := by omega
    simp [h, h2]
  · have h2 : k ≤ i := by omega
    have h3 : i - k + k = i := by omega
    simp [h, h2, h3]
theorem join (k u q : Nat) (hu : u < 2 ^ k) : u + 2 ^ k * q = u ^^^ (2 ^ k * q) := by
  have h := splitk k (u + 2 ^ k * q)
  rw [Nat.add_mul_mod_self_left, Nat.mod_eq_of_lt hu] at h
  rw [Nat.add_mul_div_left _ _ (Nat.two_pow_pos k), Nat.div_eq_of_lt hu, Nat.zero_add] at h
  exact h
theorem mul_xor (k a b : Nat) : 2 ^ k * (a ^^^ b) = 2 ^ k * a ^^^ 2 ^ k * b := by
  rw [Nat.mul_comm, ← Nat.shiftLeft_eq, Nat.shiftLeft_xor_distrib, Nat.shiftLeft_eq, Nat.shiftLeft_eq, Nat.mul_comm a, Nat.mul_comm b]
theorem stN_pow (k q : Nat) : stN k (2 ^ k * q) = q := by
  induction k generalizing q with
  | zero => simp [stN]
  | succ k ih =>
    show stN k (st (2 ^ (k + 1) * q)) = q
    rw [show 2 ^ (k + 1) * q = 2 * (2 ^ k * q) by rw [Nat.pow_succ, Nat.mul_comm (2 ^ k) 2, Nat.mul_assoc], st_double, ih]
/-- the register behind bytes, all at once -/
theorem crcL_num (c : Nat) (l : List UInt8) : crcL c l = stN (8 * l.length) (c ^^^ leN l) := by
  rw [crcL_ref]
  induction l generalizing c with
  | nil => simp [refL, leN, stN]
  | cons u l ih =>
    show refL (refB c u) l = _
    rw [ih]
    have e : leN (u :: l) = u.toNat ^^^ (2 ^ 8 * leN l) := by
      show u.toNat + 256 * leN l = _
      exact join 8 u.toNat (leN l) (by have := u.toNat_lt; omega)
    rw [e, List.length_cons, show 8 * (l.length + 1) = 8 + 8 * l.length by omega, stN_add, ← Nat.xor_assoc, stN_xor 8, stN_pow]
    rfl
theorem st_zero {c : Nat} (hc : c < 4294967296) (h : st c = 0) : c = 0 := by
  unfold st at h
  split at h
  · have h1 : c / 2 = 3988292384 := by
      have h2 : c / 2 ^^^ 3988292384 ^^^ 3988292384 = 0 ^^^ 3988292384 := by rw [h]
      rw [xor_xor_same, Nat.zero_xor] at h2
      exact h2
    omega
  · omega
theorem stN_zero (k : Nat) {c : Nat} (hc : c < 4294967296) (h : stN k c = 0) : c = 0 := by
  induction k generalizing c with
  | zero => exact h
  | succ k ih => exact st_zero hc (ih (st_lt hc) h)
theorem xor_cancel {a b c : Nat} (h : a ^^^ b = a ^^^ c) : b = c := by
  have : a ^^^ (a ^^^ b) = a ^^^ (a ^^^ c) := by rw [h]
  rwa [← Nat.xor_assoc, ← Nat.xor_assoc, Nat.xor_self, Nat.zero_xor, Nat.zero_xor] at this

/-- behind bytes that are sealed the register is one and the same -/
theorem sealed_reg (l : List UInt8) (m : Nat) (hl : l.length = m + 4) (h : leN (l.drop m) = crcSum (l.take m)) : crcL 4294967295 l = stN 32 4294967295 := by
  have hd : (l.drop m).length = 4 := by rw [List.length_drop]; omega
  have e1 : crcL 4294967295 l = crcL (crcL 4294967295 (l.take m)) (l.drop m) := by rw [← crcL_append, List.take_append_drop]
  rw [e1, crcL_num _ (l.drop m), hd, h]
  have e2 : crcSum (l.take m) = crcL 4294967295 (l.take m) ^^^ 4294967295 := by
    unfold crcSum crcMore
    rw [Nat.zero_xor]
  rw [e2, ← Nat.xor_assoc, Nat.xor_self, Nat.zero_xor]

theorem turned_bad (l l' : List UInt8) (at_ t : Nat) (ht0 : t ≠ 0) (ht : t < 4294967296) (hlen : l'.length = (sealL l).length) (hn : leN l' = leN (sealL l) ^^^ (2 ^ at_ * t)) (hat : at_ + 32 ≤ 8 * (l.length + 4)) : (openL l').2 = false := by
  have hsl : (sealL l).length = l.length + 4 := by simp [sealL, wordL]
  have hl' : l'.length = l.length + 4 := by omega
  rw [openL_eq hl']
  by_cases hx : leN (l'.drop l.length) ≠ crcSum (l'.take l.length)
  · rw [if_pos hx]
  · exfalso
    have r1 := sealed_reg l' l.length hl' (by simpa using hx)
    have r2 := sealed_reg (sealL l) l.length hsl (by
      have h1 : (sealL l).take l.length = l := by simp [sealL]
      have h2 : (sealL l).drop l.length = wordL (crcSum l) := by simp [sealL]
      rw [h1, h2, word_leN _ (crcSum_lt l)])
    rw [crcL_num, hl', hn] at r1
    rw [crcL_num, hsl] at r2
    rw [← Nat.xor_assoc, stN_xor, r2] at r1
    have r3 : stN (8 * (l.length + 4)) (2 ^ at_ * t) = 0 := by
      have : stN 32 4294967295 ^^^ stN (8 * (l.length + 4)) (2 ^ at_ * t) = stN 32 4294967295 ^^^ 0 := by rw [r1, Nat.xor_zero]
      exact xor_cancel this
    obtain ⟨k, hk⟩ : ∃ k, 8 * (l.length + 4) = at_ + k := ⟨8 * (l.length + 4) - at_, by omega⟩
    rw [hk, stN_add, stN_pow] at r3
    exact ht0 (stN_zero k ht r3)

/-- one bit is turned -/
theorem leN_turn (l : List UInt8) (j r : Nat) (hr : r < 8) (u : UInt8) (hu : l[j]? = some u) : leN (l.set j (UInt8.ofNat (u.toNat ^^^ 2 ^ r))) = leN l ^^^ 2 ^ (8 * j + r) := by
  induction l generalizing j with
  | nil => simp at hu
  | cons x l ih =>
    have hx := x.toNat_lt
    cases j with
    | zero =>
      simp only [List.getElem?_cons_zero, Option.some.injEq] at hu
      subst hu
      have h2 : (2 : Nat) ^ r < 2 ^ 8 := Nat.pow_lt_pow_right (by omega) hr
      have h3 : x.toNat ^^^ 2 ^ r < 2 ^ 8 := Nat.xor_lt_two_pow (by omega) h2
      simp only [List.set_cons_zero, leN, UInt8.toNat_ofNat']
      rw [Nat.mod_eq_of_lt h3, show (256 : Nat) = 2 ^ 8 from rfl, join 8 _ _ h3, join 8 x.toNat _ (by omega), Nat.mul_zero, Nat.zero_add, Nat.xor_assoc, Nat.xor_comm (2 ^ r), ← Nat.xor_assoc]
    | succ j =>
      simp only [List.getElem?_cons_succ] at hu
      simp only [List.set_cons_succ, leN]
      rw [ih j hu, show (256 : Nat) = 2 ^ 8 from rfl, join 8 x.toNat _ (by omega), join 8 x.toNat _ (by omega), mul_xor, ← Nat.pow_add, ← Nat.xor_assoc, show 8 + (8 * j + r) = 8 * (j + 1) + r by omega]

theorem turn_yes (l : List UInt8) (N at_ t k j r : Nat) (hj : j = (at_ + k) / 8) (hr : r = (at_ + k) % 8) (u : UInt8) (hu : l[j]? = some u) (hn : leN l = N ^^^ (2 ^ at_ * (t % 2 ^ k))) (hb : t / 2 ^ k % 2 = 1) :
    leN (l.set j (UInt8.ofNat (u.toNat ^^^ 2 ^ r))) = N ^^^ (2 ^ at_ * (t % 2 ^ (k + 1))) := by
  have e : t % 2 ^ (k + 1) = (t % 2 ^ k) ^^^ 2 ^ k := by
    have h1 : t % 2 ^ (k + 1) = t % 2 ^ k + 2 ^ k * (t / 2 ^ k % 2) := by rw [Nat.pow_succ, Nat.mod_mul]
    rw [h1, hb, join k _ 1 (Nat.mod_lt _ (Nat.two_pow_pos k)), Nat.mul_one]
  rw [leN_turn l j r (by omega) u hu, hn, e, mul_xor, ← Nat.pow_add, ← Nat.xor_assoc, show 8 * j + r = at_ + k by omega]
theorem turn_no (l : List UInt8) (N at_ t k : Nat) (hn : leN l = N ^^^ (2 ^ at_ * (t % 2 ^ k))) (hb : ¬ t / 2 ^ k % 2 = 1) :
    leN l = N ^^^ (2 ^ at_ * (t % 2 ^ (k + 1))) := by
  have h1 : t % 2 ^ (k + 1) = t % 2 ^ k + 2 ^ k * (t / 2 ^ k % 2) := by rw [Nat.pow_succ, Nat.mod_mul]
  rw [h1, show t / 2 ^ k % 2 = 0 by omega, Nat.mul_zero, Nat.add_zero]
  exact hn
end Go.Proofs.YtgklbejnbplbgaaDoor
