/-
  The year of a day of 400 years: shown for each of their 146097 days by the kernel.
  The document's dates: leap, Days, ahead, day, zero, Moment, first, last, May; the code's within, Of.
-/
import Derived.WalkKit
import Derived.Test.YtjmmgekildlckaaProg
import Derived.Test.YtjmmgekildlckaaPla
import Derived.Test.YtjmmgekildlckaaBas
import Derived.IntWalk
section
namespace Go.Nst
set_option linter.unusedVariables false

def allR (f : Nat → Bool) : Nat → Nat → Bool
  | 0, lo => f lo
  | k + 1, lo => and (allR f k lo) (allR f k (Nat.add lo (Nat.pow 2 k)))
theorem allR_at (f : Nat → Bool) : ∀ (k lo o : Nat), allR f k lo = true → lo ≤ o → o < lo + 2 ^ k → f o = true
  | 0, lo, o, h, h1, h2 => by
    obtain rfl : o = lo := by simp at h2; omega
    exact h
  | k + 1, lo, o, h, h1, h2 => by
    simp only [allR, Bool.and_eq_true] at h
    by_cases hm : o < lo + 2 ^ k
    · exact allR_at f k lo o h.1 h1 hm
    · exact allR_at f k (lo + 2 ^ k) o h.2 (by omega) (by rw [Nat.pow_succ] at h2; omega)
/-- is o a day of the year y of its 400 years? -/
def chkY (o y : Nat) : Bool := and (Nat.ble y 399) (and (Nat.ble (Nat.add (Nat.mul 365 y) (Nat.div y 4)) (Nat.add o (Nat.div y 100))) (Nat.blt (Nat.add o (Nat.div (Nat.succ y) 100)) (Nat.add (Nat.add (Nat.mul 365 (Nat.succ y)) (Nat.div (Nat.succ y) 4)) (Nat.div (Nat.succ y) 400))))
def chk (o : Nat) : Bool := or (Nat.ble 146097 o) (chkY o (Nat.div (Nat.sub (Nat.sub (Nat.add o (Nat.div o 36524)) (Nat.div o 1460)) (Nat.div o 146096)) 365))
theorem t18 : allR chk 18 0 = true := by decide +kernel
theorem of_tab (o : Int) (h0 : 0 ≤ o) (h1 : o ≤ 146096) (y : Int) (hy : y = (o - o / 1460 + o / 36524 - o / 146096) / 365) : 0 ≤ y ∧ y ≤ 399 ∧ 0 ≤ o - (365 * y + y / 4 - y / 100) ∧ o < 365 * (y + 1) + (y + 1) / 4 - (y + 1) / 100 + (y + 1) / 400 := by
  obtain ⟨a, rfl⟩ := Int.eq_ofNat_of_zero_le h0
  have h := allR_at chk 18 0 a t18 (by omega) (by omega)
  obtain ⟨b, hb⟩ : ∃ b : Nat, b = (a + a / 36524 - a / 1460 - a / 146096) / 365 := ⟨_, rfl⟩
  have hyb : y = (b : Int) := by rw [hy, hb]; omega
  have h' : (Nat.ble 146097 a || chkY a b) = true := by rw [hb]; exact h
  have hn : Nat.ble 146097 a = false := by
    cases hq : Nat.ble 146097 a with
    | false => rfl
    | true => have := Nat.le_of_ble_eq_true hq; omega
  rw [hn, Bool.false_or] at h'
  simp only [chkY, Bool.and_eq_true] at h'
  obtain ⟨k1, k2, k3⟩ := h'
  have k1 := Nat.le_of_ble_eq_true k1
  have k2 := Nat.le_of_ble_eq_true k2
  have k3 : a + (b + 1) / 100 < 365 * (b + 1) + (b + 1) / 4 + (b + 1) / 400 := Nat.le_of_ble_eq_true k3
  have k2 : 365 * b + b / 4 ≤ a + b / 100 := k2
  subst hyb
  obtain ⟨c, hc⟩ : ∃ c : Nat, c = b + 1 := ⟨_, rfl⟩
  rw [← hc] at k3
  rw [show (b : Int) + 1 = (c : Int) by omega]
  clear hb hy h hn
  refine ⟨by omega, by omega, by omega, by omega⟩
end Go.Nst
end
section
namespace Go.Proofs.Ytjmmgekildlckaa
open Go.RowKit Go.Nst
set_option maxRecDepth 100000
set_option linter.unusedVariables false
set_option linter.unusedSimpArgs false

theorem leap_cases (y : Int) : ((y % 4 == 0) = false ∧ (y % 400 == 0) = false ∧ leapB y = false) ∨ ((y % 4 == 0) = true ∧ (y % 100 != 0) = true ∧ (y % 100 == 0) = false ∧ leapB y = true) ∨ ((y % 4 == 0) = true ∧ (y % 100 != 0) = false ∧ (y % 100 == 0) = true ∧ (y % 400 == 0) = true ∧ leapB y = true) ∨ ((y % 4 == 0) = true ∧ (y % 100 != 0) = false ∧ (y % 100 == 0) = true ∧ (y % 400 == 0) = false ∧ leapB y = false) := by
  unfold leapB
  by_cases a : y % 4 = 0 <;> by_cases b : y % 100 = 0 <;> by_cases c : y % 400 = 0 <;> simp [a, b, c] <;> omega
set_option maxHeartbeats 1000000 in
theorem leap4_any (y : Int) (w : World) (h0 : 0 ≤ y) (h1 : y ≤ 100000) : Calls Try.prog 77 #[.int .i64 y] w fun e w' => e = .returned (.bool (leapB y)) ∧ w = w' := by
  rcases leap_cases y with ⟨a, b, hl⟩ | ⟨a, b, b', hl⟩ | ⟨a, b, b', c, hl⟩ | ⟨a, b, b', c, hl⟩
  all_goals
    rw [hl]
    clear hl
    go_enter Try.func77, Try.ntmps77
    go_wp2_with fail
    go_ret
    exact ⟨rfl, rfl⟩
theorem daysM_out {y m : Int} (h : y < 1 ∨ 9999 < y ∨ m < 1 ∨ 12 < m) : daysM y m = 0 := by unfold daysM; rw [if_pos h]
theorem daysM_two {y : Int} (h0 : 1 ≤ y) (h1 : y ≤ 9999) : daysM y 2 = if leapB y then 29 else 28 := by rw [daysM_in h0 h1 (by omega) (by omega)]; rfl

theorem aheadY_bd {y : Int} (h0 : 1 ≤ y) (h1 : y ≤ 100000) : 0 ≤ aheadY y ∧ aheadY y ≤ 40000000 := by unfold aheadY; omega
theorem daysM_bd (y m : Int) : 0 ≤ daysM y m ∧ daysM y m ≤ 31 := by unfold daysM; (repeat' split) <;> omega
theorem cumN_bd (y : Int) : ∀ k : Nat, 0 ≤ cumN y k ∧ cumN y k ≤ 31 * k
  | 0 => by simp [cumN]
  | k + 1 => by
    have := cumN_bd y k
    have := daysM_bd y k
    simp only [cumN]
    split <;> omega

theorem within_any (n a b : Int) (w : World) : Calls Try.prog 63 #[.int .i64 n, .int .i64 a, .int .i64 b] w fun e w' => e = .returned (.bool (decide (a ≤ n) && decide (n ≤ b))) ∧ w = w' := by
  by_cases h1 : a ≤ n
  · have d1 : decide (a ≤ n) = true := by simpa using h1
    rw [d1, Bool.true_and]
    go_enter Try.func63, Try.ntmps63
    go_wp2_with fail
    go_ret
    exact ⟨rfl, rfl⟩
  · have d1 : decide (a ≤ n) = false := by simpa using h1
    rw [d1, Bool.false_and]
    go_enter Try.func63, Try.ntmps63
    go_wp2_with fail
    go_ret
    exact ⟨rfl, rfl⟩

def Dt.cells (x : Dt) : Array Value := #[.int .i64 x.y, .int .i64 x.m, .int .i64 x.d, .int .i64 x.h, .int .i64 x.mi, .int .i64 x.s]
def Dt.val (x : Dt) : Value := .agg (Dt.cells x)
theorem dayR_bd {y : Int} {m : Nat} {d : Int} (h0 : 1 ≤ y) (h1 : y ≤ 9999) (hm2 : m ≤ 12) (hd0 : -100000 ≤ d) (hd1 : d ≤ 100000) : -200000 ≤ dayR y m d ∧ dayR y m d ≤ 50000000 := by
  have := aheadY_bd h0 (show y ≤ 100000 by omega)
  have := cumN_bd y m
  unfold dayR
  omega
theorem mayM_iff {n : Int} : mayM n = true ↔ -62135596800 ≤ n ∧ n ≤ 253402300799 := by unfold mayM; simp
theorem of_bounds {n : Int} (h : mayM n = true) : (0 ≤ n + 62135596800 ∧ n + 62135596800 ≤ 315537897599) ∧ (306 ≤ ofN n ∧ ofN n ≤ 3652364) ∧ (0 ≤ ofO n ∧ ofO n ≤ 146096) ∧ (0 ≤ ofY n ∧ ofY n ≤ 399) ∧ (0 ≤ ofI n ∧ ofI n ≤ 365) ∧ (0 ≤ ofM n ∧ ofM n ≤ 11) := by
  rw [mayM_iff] at h
  have h1 : 306 ≤ ofN n ∧ ofN n ≤ 3652364 := by unfold ofN; omega
  have h2 : 0 ≤ ofO n ∧ ofO n ≤ 146096 := by unfold ofO; omega
  obtain ⟨t1, t2, t3, t4⟩ := of_tab (ofO n) h2.1 h2.2 (ofY n) rfl
  have h4 : 0 ≤ ofI n ∧ ofI n ≤ 365 := by unfold ofI; omega
  have h5 : 0 ≤ ofM n ∧ ofM n ≤ 11 := by unfold ofM; omega
  exact ⟨by omega, h1, h2, ⟨t1, t2⟩, h4, h5⟩
end Go.Proofs.Ytjmmgekildlckaa
end
