/-
  Signs that stand for others, in plain Lean: the rune of a name, a text read, a text written.
-/
import Derived.Test.YtjmmgekildlckaaPla
import Derived.Lib.IndexMore
namespace Go.Nst
set_option linter.unusedVariables false
set_option linter.unusedSimpArgs false

/-- what a sign counts in a base; below 0: nothing -/
def digV (c : Int) : Int := if 48 ≤ c ∧ c ≤ 57 then c - 48 else if 97 ≤ c ∧ c ≤ 102 then c - 97 + 10 else if 65 ≤ c ∧ c ≤ 70 then c - 65 + 10 else -1
def digB (c base : Int) : Int := if base ≤ digV c then -1 else digV c
theorem digV_bd (c : Int) : -1 ≤ digV c ∧ digV c ≤ 15 := by unfold digV; (repeat' split) <;> omega
theorem digB_bd (c base : Int) : -1 ≤ digB c base ∧ digB c base ≤ 15 := by have := digV_bd c; unfold digB; split <;> omega
theorem digB_high (c base : Int) (h : 128 ≤ c) : digB c base = -1 := by
  have : digV c = -1 := by unfold digV; rw [if_neg (by omega), if_neg (by omega), if_neg (by omega)]
  unfold digB
  rw [this]
  split <;> rfl
def numGo (base : Int) : Int → List UInt8 → Int
  | n, [] => n
  | n, c :: t => if digB (c.toNat : Int) base < 0 then -1 else numGo base (base * n + digB (c.toNat : Int) base) t
/-- a number of digits; below 0: it is none -/
def numberL (l : List UInt8) (base most : Int) : Int := if l = [] ∨ most < (l.length : Int) then -1 else numGo base 0 l

theorem firstL_low (c : UInt8) (t : List UInt8) (h : c.toNat < 128) : firstL (c :: t) = (c.toNat, 1) := by simp [firstL, h]
theorem firstL_high (c : UInt8) (t : List UInt8) (h : 128 ≤ c.toNat) : 128 ≤ (firstL (c :: t)).1 := by
  unfold firstL
  dsimp only
  rw [if_neg (by omega)]
  (repeat' split) <;> simp_all <;> omega

def okSign (n : Int) : Bool := n == 9 || n == 10 || n == 13 || (decide (32 ≤ n) && decide (n ≤ 1114111) && !(decide (55296 ≤ n) && decide (n ≤ 57343)))
def signNum (n : Int) : Option Int := if n < 0 then none else if okSign n then some n else some 65533
/-- the number that a name tells -/
def signN (l : List UInt8) : Int := if Lib.hasPrefix l [35, 120] then numberL (l.drop 2) 16 6 else if Lib.hasPrefix l [35] then numberL (l.drop 1) 10 7 else -1
/-- the rune of a name -/
def signL (l : List UInt8) : Option Int :=
  if l = [97, 109, 112] then some 38 else if l = [108, 116] then some 60 else if l = [103, 116] then some 62 else if l = [113, 117, 111, 116] then some 34 else if l = [97, 112, 111, 115] then some 39
  else signNum (signN l)

theorem numGo_bd (base : Int) (hb : 0 ≤ base ∧ base ≤ 16) : ∀ (l : List UInt8) (n : Int), 0 ≤ n → -1 ≤ numGo base n l ∧ numGo base n l < (n + 1) * 16 ^ l.length
  | [], n, h => by simp [numGo]; omega
  | c :: t, n, h => by
    simp only [numGo]
    have hd := digB_bd (c.toNat : Int) base
    have hpow : (0 : Int) < 16 ^ t.length := Int.pow_pos (by omega)
    have e1 : ((16 : Int)) ^ (c :: t).length = 16 * 16 ^ t.length := by rw [List.length_cons, Int.pow_succ, Int.mul_comm]
    by_cases hn : digB (c.toNat : Int) base < 0
    · rw [if_pos hn]
      refine ⟨by omega, ?_⟩
      have : (0 : Int) ≤ (n + 1) * 16 ^ (c :: t).length := Int.mul_nonneg (by omega) (Int.le_of_lt (Int.pow_pos (by omega)))
      omega
    · rw [if_neg hn]
      have hbn : 0 ≤ base * n := Int.mul_nonneg hb.1 h
      have hbn2 : base * n ≤ 16 * n := Int.mul_le_mul_of_nonneg_right hb.2 h
      have ih := numGo_bd base hb t (base * n + digB (c.toNat : Int) base) (by omega)
      refine ⟨ih.1, ?_⟩
      rw [e1, ← Int.mul_assoc]
      have : (base * n + digB (c.toNat : Int) base + 1) * 16 ^ t.length ≤ ((n + 1) * 16) * 16 ^ t.length := Int.mul_le_mul_of_nonneg_right (by omega) (Int.le_of_lt hpow)
      omega
theorem numberL_bd (l : List UInt8) (base most : Int) (hb : 0 ≤ base ∧ base ≤ 16) (hm : most ≤ 7) : -1 ≤ numberL l base most ∧ numberL l base most < 268435456 := by
  unfold numberL
  split
  · omega
  · rename_i h
    have := numGo_bd base hb l 0 (by omega)
    have hl : l.length ≤ 7 := by omega
    have hp : (16 : Nat) ^ l.length ≤ 16 ^ 7 := Nat.pow_le_pow_right (by omega) hl
    have he : (16 : Int) ^ l.length = ((16 ^ l.length : Nat) : Int) := by simp
    rw [he] at this
    generalize 16 ^ l.length = q at *
    omega
theorem signN_bd (l : List UInt8) : -1 ≤ signN l ∧ signN l < 268435456 := by
  unfold signN
  split
  · exact numberL_bd _ 16 6 (by omega) (by omega)
  · split
    · exact numberL_bd _ 10 7 (by omega) (by omega)
    · omega
theorem signNum_bd (n r : Int) (h : signNum n = some r) : 0 ≤ r ∧ r ≤ 1114111 := by
  unfold signNum at h
  split at h
  · cases h
  · split at h
    · rename_i h1 h2
      injection h with h
      subst h
      simp [okSign] at h2
      omega
    · injection h with h
      omega
theorem signL_bd (l : List UInt8) (r : Int) (h : signL l = some r) : 0 ≤ r ∧ r ≤ 1114111 := by
  unfold signL at h
  (repeat' split at h) <;> first | (injection h with h; omega) | exact signNum_bd _ _ h
theorem numberL_len {l : List UInt8} {base most : Int} (h : 0 ≤ numberL l base most) : (l.length : Int) ≤ most := by
  unfold numberL at h
  split at h
  · omega
  · omega
/-- a name that is known is short, and has no ';' in it -/
theorem signL_len (l : List UInt8) (r : Int) (h : signL l = some r) : l.length ≤ 8 := by
  unfold signL at h
  by_cases h1 : l = [97, 109, 112]
  · rw [h1]; decide
  by_cases h2 : l = [108, 116]
  · rw [h2]; decide
  by_cases h3 : l = [103, 116]
  · rw [h3]; decide
  by_cases h4 : l = [113, 117, 111, 116]
  · rw [h4]; decide
  by_cases h5 : l = [97, 112, 111, 115]
  · rw [h5]; decide
  rw [if_neg h1, if_neg h2, if_neg h3, if_neg h4, if_neg h5] at h
  have hn : 0 ≤ signN l := by
    unfold signNum at h
    split at h
    · cases h
    · omega
  unfold signN at hn
  split at hn
  · have := numberL_len hn
    simp at this
    omega
  · split at hn
    · have := numberL_len hn
      simp at this
      omega
    · omega

/-- the sign whose name stands here, and how many bytes the name has, with its end -/
def signAt (t : List UInt8) : Option (Int × Nat) :=
  if (Lib.cut t [59]).2.2 then (signL (Lib.cut t [59]).1).map fun r => (r, (Lib.cut t [59]).1.length + 1) else none
theorem signAt_some {t : List UInt8} {r : Int} (h1 : (Lib.cut t [59]).2.2 = true) (h2 : signL (Lib.cut t [59]).1 = some r) : signAt t = some (r, (Lib.cut t [59]).1.length + 1) := by unfold signAt; rw [if_pos h1, h2]; rfl
theorem signAt_none {t : List UInt8} (h2 : signL (Lib.cut t [59]).1 = none) : signAt t = none := by unfold signAt; rw [h2]; simp
theorem signAt_off {t : List UInt8} (h1 : (Lib.cut t [59]).2.2 = false) : signAt t = none := by unfold signAt; rw [h1]; simp
/-- a text with signs in place of their names -/
def readF : Nat → List UInt8 → List UInt8
  | 0, _ => []
  | _ + 1, [] => []
  | k + 1, c :: t => if c = 38 then (match signAt t with
      | some (r, n) => Lib.encodeRune r ++ readF k (t.drop n)
      | none => 38 :: readF k t) else c :: readF k t
def readL (l : List UInt8) : List UInt8 := readF l.length l
theorem readF_fuel : ∀ (k m : Nat) (l : List UInt8), l.length ≤ k → l.length ≤ m → readF k l = readF m l
  | 0, m, l, hk, _ => by
    obtain rfl : l = [] := List.eq_nil_of_length_eq_zero (by omega)
    cases m <;> rfl
  | k + 1, 0, l, _, hm => by
    obtain rfl : l = [] := List.eq_nil_of_length_eq_zero (by omega)
    rfl
  | k + 1, m + 1, [], _, _ => rfl
  | k + 1, m + 1, c :: t, hk, hm => by
    simp only [readF]
    simp only [List.length_cons] at hk hm
    by_cases hc : c = 38
    · rw [if_pos hc, if_pos hc]
      cases signAt t with
      | none => simp only; rw [readF_fuel k m t (by omega) (by omega)]
      | some p => simp only; rw [readF_fuel k m (t.drop p.2) (by rw [List.length_drop]; omega) (by rw [List.length_drop]; omega)]
    · rw [if_neg hc, if_neg hc, readF_fuel k m t (by omega) (by omega)]
theorem readL_nil : readL [] = [] := rfl
theorem readL_plain (c : UInt8) (t : List UInt8) (h : c ≠ 38) : readL (c :: t) = c :: readL t := by
  unfold readL; simp only [List.length_cons, readF]; rw [if_neg h]
theorem readL_sign {t : List UInt8} {r : Int} {n : Nat} (h : signAt t = some (r, n)) : readL (38 :: t) = Lib.encodeRune r ++ readL (t.drop n) := by
  unfold readL; simp only [List.length_cons, readF, h]
  rw [if_pos trivial, readF_fuel t.length _ _ (by rw [List.length_drop]; omega) (Nat.le_refl _)]
theorem readL_amp {t : List UInt8} (h : signAt t = none) : readL (38 :: t) = 38 :: readL t := by
  unfold readL; simp only [List.length_cons, readF, h]; rw [if_pos trivial]
theorem readL_ahead (a t : List UInt8) (h : 38 ∉ a) : readL (a ++ t) = a ++ readL t := by
  induction a with
  | nil => rfl
  | cons c a ih =>
    simp only [List.mem_cons, not_or] at h
    rw [List.cons_append, readL_plain c _ (fun e => h.1 e.symm), ih h.2]
    rfl

/-- a byte, written -/
def escC (c : UInt8) : List UInt8 :=
  if c = 38 then [38, 97, 109, 112, 59] else if c = 60 then [38, 108, 116, 59] else if c = 62 then [38, 103, 116, 59] else if c = 34 then [38, 113, 117, 111, 116, 59] else if c = 39 then [38, 97, 112, 111, 115, 59] else [c]
def writeL (l : List UInt8) : List UInt8 := l.flatMap escC
def plainB (l : List UInt8) : Bool := writeL l == l
def specC (c : UInt8) : Bool := c == 38 || c == 60 || c == 62 || c == 34 || c == 39
theorem escC_plain (c : UInt8) (h : specC c = false) : escC c = [c] := by
  simp [specC] at h
  obtain ⟨⟨⟨⟨h1, h2⟩, h3⟩, h4⟩, h5⟩ := h
  unfold escC
  rw [if_neg h1, if_neg h2, if_neg h3, if_neg h4, if_neg h5]
theorem escC_len (c : UInt8) : 1 ≤ (escC c).length ∧ (escC c).length ≤ 6 ∧ (specC c = true → 2 ≤ (escC c).length) := by
  cases h : specC c with
  | false => rw [escC_plain c h]; simp
  | true =>
    simp [specC] at h
    rcases h with (((rfl | rfl) | rfl) | rfl) | rfl <;> decide
theorem writeL_len (l : List UInt8) : l.length ≤ (writeL l).length ∧ (writeL l).length ≤ 6 * l.length := by
  induction l with
  | nil => simp [writeL]
  | cons c t ih =>
    have := escC_len c
    simp only [writeL, List.flatMap_cons, List.length_append, List.length_cons] at ih ⊢
    omega
theorem plainB_iff (l : List UInt8) : plainB l = l.all fun c => !specC c := by
  rw [Bool.eq_iff_iff]
  unfold plainB
  rw [beq_iff_eq]
  induction l with
  | nil => simp [writeL]
  | cons c t ih =>
    have hw : writeL (c :: t) = escC c ++ writeL t := by simp [writeL]
    cases h : specC c with
    | false =>
      rw [hw, escC_plain c h]
      simp [h]
      rw [ih]
      simp
    | true =>
      have h1 := (escC_len c).2.2 h
      have h2 := (writeL_len t).1
      simp [h]
      intro e
      have := congrArg List.length e
      rw [hw, List.length_append, List.length_cons] at this
      omega
theorem writeL_append (a b : List UInt8) : writeL (a ++ b) = writeL a ++ writeL b := by simp [writeL]
theorem plainB_append (a b : List UInt8) : plainB (a ++ b) = (plainB a && plainB b) := by rw [plainB_iff, plainB_iff, plainB_iff, List.all_append]
theorem cut_name (n t : List UInt8) (h : 59 ∉ n) : Lib.cut (n ++ 59 :: t) [59] = (n, t, true) := by
  have hi : Lib.index (n ++ 59 :: t) [59] = n.length := by
    induction n with
    | nil => simp [Lib.index]
    | cons c n ih =>
      simp only [List.mem_cons, not_or] at h
      rw [List.cons_append]
      unfold Lib.index
      have hp : List.isPrefixOf [(59 : UInt8)] (c :: (n ++ 59 :: t)) = false := by
        simp [List.isPrefixOf]
        exact h.1
      rw [hp, ih h.2]
      simp
  unfold Lib.cut
  rw [hi, if_pos (by omega)]
  simp
theorem index_none (t : List UInt8) (c : UInt8) (h : c ∉ t) : Lib.index t [c] = -1 := by
  induction t with
  | nil => simp [Lib.index]
  | cons d t ih =>
    simp only [List.mem_cons, not_or] at h
    unfold Lib.index
    have hp : List.isPrefixOf [c] (d :: t) = false := by
      simp [List.isPrefixOf]
      exact h.1
    rw [hp, ih h.2]
    simp
theorem index_one (n t : List UInt8) (c : UInt8) (h : c ∉ n) : Lib.index (n ++ c :: t) [c] = n.length := by
  induction n with
  | nil => simp [Lib.index]
  | cons d n ih =>
    simp only [List.mem_cons, not_or] at h
    rw [List.cons_append]
    unfold Lib.index
    have hp : List.isPrefixOf [c] (d :: (n ++ c :: t)) = false := by
      simp [List.isPrefixOf]
      exact h.1
    rw [hp, ih h.2]
    simp
theorem cut_yes (n t : List UInt8) (c : UInt8) (h : c ∉ n) : Lib.cut (n ++ c :: t) [c] = (n, t, true) := by
  unfold Lib.cut
  rw [index_one n t c h, if_pos (by omega)]
  simp
theorem cut_no (t : List UInt8) (c : UInt8) (h : c ∉ t) : Lib.cut t [c] = (t, [], false) := by
  unfold Lib.cut
  rw [index_none t c h, if_neg (by omega)]
theorem cut_one (t : List UInt8) (c : UInt8) : (∃ a r, t = a ++ c :: r ∧ c ∉ a ∧ Lib.cut t [c] = (a, r, true)) ∨ (c ∉ t ∧ Lib.cut t [c] = (t, [], false)) := by
  by_cases h : c ∈ t
  · obtain ⟨a, r, e, hn⟩ := List.eq_append_cons_of_mem h
    left
    exact ⟨a, r, e, hn, by rw [e]; exact cut_yes a r c hn⟩
  · exact .inr ⟨h, cut_no t c h⟩
theorem cut_le (t : List UInt8) (c : UInt8) : (Lib.cut t [c]).1.length ≤ t.length ∧ (Lib.cut t [c]).2.1.length ≤ t.length ∧ ((Lib.cut t [c]).2.2 = true → (Lib.cut t [c]).1.length + 1 + (Lib.cut t [c]).2.1.length = t.length ∧ t.drop ((Lib.cut t [c]).1.length + 1) = (Lib.cut t [c]).2.1) := by
  rcases cut_one t c with ⟨a, r, e, hn, hc⟩ | ⟨hn, hc⟩
  · rw [hc, e]
    simp
    omega
  · rw [hc]
    simp
theorem signAt_far {r : List UInt8} (h : ∀ j, j < 11 → r[j]? ≠ some 59) : signAt r = none := by
  rcases cut_one r 59 with ⟨a, b, e, hn, hc⟩ | ⟨hn, hc⟩
  · have hl : 11 ≤ a.length := by
      rcases Nat.lt_or_ge a.length 11 with q | q
      · exact absurd (by rw [e]; simp) (h a.length q)
      · exact q
    have hs : signL a = none := by
      cases hs : signL a with
      | none => rfl
      | some r => have := signL_len a r hs; omega
    exact signAt_none (by rw [hc]; exact hs)
  · exact signAt_off (by rw [hc])
theorem read_name {n t : List UInt8} {r : Int} (h : 59 ∉ n) (hs : signL n = some r) : readL (38 :: (n ++ 59 :: t)) = Lib.encodeRune r ++ readL t := by
  have hc := cut_name n t h
  have := signAt_some (t := n ++ 59 :: t) (by rw [hc]) (by rw [hc]; exact hs)
  rw [hc] at this
  rw [readL_sign this]
  simp
theorem read_esc (c : UInt8) (t : List UInt8) : readL (escC c ++ t) = c :: readL t := by
  cases h : specC c with
  | false =>
    rw [escC_plain c h]
    have : c ≠ 38 := by intro e; subst e; simp [specC] at h
    exact readL_plain c t this
  | true =>
    simp [specC] at h
    rcases h with (((rfl | rfl) | rfl) | rfl) | rfl
    · exact read_name (n := [97, 109, 112]) (r := 38) (by decide) (by decide)
    · exact read_name (n := [108, 116]) (r := 60) (by decide) (by decide)
    · exact read_name (n := [103, 116]) (r := 62) (by decide) (by decide)
    · exact read_name (n := [113, 117, 111, 116]) (r := 34) (by decide) (by decide)
    · exact read_name (n := [97, 112, 111, 115]) (r := 39) (by decide) (by decide)
theorem read_write (l : List UInt8) : readL (writeL l) = l := by
  induction l with
  | nil => rfl
  | cons c t ih =>
    have hw : writeL (c :: t) = escC c ++ writeL t := by simp [writeL]
    rw [hw, read_esc, ih]
end Go.Nst
