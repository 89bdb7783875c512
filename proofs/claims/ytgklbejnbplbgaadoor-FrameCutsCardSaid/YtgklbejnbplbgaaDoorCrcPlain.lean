/-
  The sum of bytes, in plain Lean: by half bytes over a table, and bit by bit; the two are one.
-/
namespace Go.Nst

def halvesL : List Nat := [0x00000000, 0x1db71064, 0x3b6e20c8, 0x26d930ac, 0x76dc4190, 0x6b6b51f4, 0x4db26158, 0x5005713c, 0xedb88320, 0xf00f9344, 0xd6d6a3e8, 0xcb61b38c, 0x9b64c2b0, 0x86d3d2d4, 0xa00ae278, 0xbdbdf21c]
def halfT (k : Nat) : Nat := halvesL.getD k 0
def half (c : Nat) : Nat := halfT (c % 16) ^^^ (c / 16)
def crcB (c : Nat) (u : UInt8) : Nat := half (half (c ^^^ u.toNat))
def crcL (c : Nat) (l : List UInt8) : Nat := l.foldl crcB c
def crcMore (s : Nat) (l : List UInt8) : Nat := crcL (s ^^^ 4294967295) l ^^^ 4294967295
def crcSum (l : List UInt8) : Nat := crcMore 0 l

theorem halfT_lt (k : Nat) : halfT k < 4294967296 := by
  unfold halfT
  by_cases h : k < 16
  · have : ∀ j : Fin 16, halvesL.getD j.1 0 < 4294967296 := by decide
    exact this ⟨k, h⟩
  · rw [List.getD_eq_getElem?_getD, List.getElem?_eq_none (by simp [halvesL]; omega)]; simp
theorem xor_lt {a b : Nat} (ha : a < 4294967296) (hb : b < 4294967296) : a ^^^ b < 4294967296 := Nat.xor_lt_two_pow (n := 32) ha hb
theorem half_lt {c : Nat} (h : c < 4294967296) : half c < 4294967296 := xor_lt (halfT_lt _) (by omega)
theorem u8_lt (u : UInt8) : u.toNat < 4294967296 := by have := u.toNat_lt; omega
theorem crcB_lt {c : Nat} (h : c < 4294967296) (u : UInt8) : crcB c u < 4294967296 := half_lt (half_lt (xor_lt h (u8_lt u)))
theorem crcL_lt {c : Nat} (h : c < 4294967296) (l : List UInt8) : crcL c l < 4294967296 := by
  induction l generalizing c with
  | nil => exact h
  | cons u l ih => exact ih (crcB_lt h u)
theorem crcMore_lt {s : Nat} (h : s < 4294967296) (l : List UInt8) : crcMore s l < 4294967296 := xor_lt (crcL_lt (xor_lt h (by omega)) l) (by omega)
theorem crcSum_lt (l : List UInt8) : crcSum l < 4294967296 := crcMore_lt (by omega) l
theorem crcL_append (c : Nat) (a b : List UInt8) : crcL c (a ++ b) = crcL (crcL c a) b := List.foldl_append ..
theorem crcL_snoc (c : Nat) (a : List UInt8) (u : UInt8) : crcL c (a ++ [u]) = crcB (crcL c a) u := by rw [crcL_append]; rfl
theorem xor_xor_same (a b : Nat) : a ^^^ b ^^^ b = a := by rw [Nat.xor_assoc, Nat.xor_self, Nat.xor_zero]
theorem crcMore_append (s : Nat) (a b : List UInt8) : crcMore (crcMore s a) b = crcMore s (a ++ b) := by
  unfold crcMore
  rw [xor_xor_same, crcL_append]
theorem crcMore_nil (s : Nat) : crcMore s [] = s := by
  unfold crcMore
  show s ^^^ 4294967295 ^^^ 4294967295 = s
  rw [xor_xor_same]

/-! ### bit by bit -/
def st (c : Nat) : Nat := if c % 2 = 1 then (c / 2) ^^^ 3988292384 else c / 2
def stN : Nat → Nat → Nat
  | 0, c => c
  | k + 1, c => stN k (st c)
def refB (c : Nat) (u : UInt8) : Nat := stN 8 (c ^^^ u.toNat)
def refL (c : Nat) (l : List UInt8) : Nat := l.foldl refB c
def refMore (s : Nat) (l : List UInt8) : Nat := refL (s ^^^ 4294967295) l ^^^ 4294967295

theorem stN_add (a b c : Nat) : stN (a + b) c = stN b (stN a c) := by
  induction a generalizing c with
  | zero => simp [stN]
  | succ a ih => rw [Nat.succ_add]; exact ih (st c)
theorem stN_succ (k c : Nat) : stN (k + 1) c = st (stN k c) := by rw [stN_add]; rfl
theorem st_lt {c : Nat} (h : c < 4294967296) : st c < 4294967296 := by
  unfold st; split
  · exact xor_lt (by omega) (by omega)
  · omega
theorem stN_lt (k : Nat) {c : Nat} (h : c < 4294967296) : stN k c < 4294967296 := by
  induction k generalizing c with
  | zero => exact h
  | succ k ih => exact ih (st_lt h)
theorem st_xor (a b : Nat) : st (a ^^^ b) = st a ^^^ st b := by
  unfold st
  rw [Nat.xor_div_two]
  by_cases ha : a % 2 = 1 <;> by_cases hb : b % 2 = 1
  · rw [if_neg (by rw [Nat.xor_mod_two_eq_one]; simp [ha, hb]), if_pos ha, if_pos hb]
    rw [Nat.xor_comm (b / 2), ← Nat.xor_assoc, xor_xor_same]
  · rw [if_pos (by rw [Nat.xor_mod_two_eq_one]; simp [ha, hb]), if_pos ha, if_neg hb]
    rw [Nat.xor_assoc, Nat.xor_comm (b / 2), ← Nat.xor_assoc]
  · rw [if_pos (by rw [Nat.xor_mod_two_eq_one]; simp [ha, hb]), if_neg ha, if_pos hb]
    rw [Nat.xor_assoc]
  · rw [if_neg (by rw [Nat.xor_mod_two_eq_one]; simp [ha, hb]), if_neg ha, if_neg hb]
theorem stN_xor (k a b : Nat) : stN k (a ^^^ b) = stN k a ^^^ stN k b := by
  induction k generalizing a b with
  | zero => rfl
  | succ k ih => show stN k (st _) = stN k (st _) ^^^ stN k (st _); rw [st_xor, ih]
theorem st_double (q : Nat) : st (2 * q) = q := by
  unfold st
  rw [if_neg (by omega)]; omega
theorem split16 (c : Nat) : c = (c % 16) ^^^ (16 * (c / 16)) := by
  apply Nat.eq_of_testBit_eq
  intro i
  rw [Nat.testBit_xor]
  rw [show (16 * (c / 16)) = 2 ^ 4 * (c / 2 ^ 4) from rfl, show c % 16 = c % 2 ^ 4 from rfl]
  rw [Nat.testBit_mod_two_pow, Nat.testBit_two_pow_mul, Nat.testBit_div_two_pow]
  by_cases h : i < 4
  · have h2 : ¬ 4 ≤ i := by omega
    simp [h, h2]
  · have h2 : 4 ≤ i := by omega
    simp [h, h2]
theorem half_st (c : Nat) : half c = stN 4 c := by
  have h1 : stN 4 c = stN 4 (c % 16) ^^^ stN 4 (16 * (c / 16)) := by rw [← stN_xor, ← split16]
  have h2 : stN 4 (16 * (c / 16)) = c / 16 := by
    show st (st (st (st _))) = _
    rw [show 16 * (c / 16) = 2 * (2 * (2 * (2 * (c / 16)))) from by omega]
    rw [st_double, st_double, st_double, st_double]
  have h3 : ∀ j : Fin 16, stN 4 j.1 = halfT j.1 := by decide
  rw [h1, h2, h3 ⟨c % 16, by omega⟩]
  rfl
theorem crcB_ref (c : Nat) (u : UInt8) : crcB c u = refB c u := by
  unfold crcB refB
  rw [half_st, half_st, ← stN_add]
theorem crcL_ref (c : Nat) (l : List UInt8) : crcL c l = refL c l := by
  induction l generalizing c with
  | nil => rfl
  | cons u l ih => show crcL (crcB c u) l = refL (refB c u) l; rw [crcB_ref, ih]
theorem crcMore_ref (s : Nat) (l : List UInt8) : crcMore s l = refMore s l := by unfold crcMore refMore; rw [crcL_ref]
end Go.Nst
