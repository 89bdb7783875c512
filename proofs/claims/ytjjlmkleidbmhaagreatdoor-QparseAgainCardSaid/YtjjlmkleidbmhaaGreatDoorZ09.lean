/-
  Queries' texts and what they lean on, part 9: only what the claims need.
-/
import Derived.WalkKit
import Derived.IntWalk
import Derived.Test.YtjjlmkleidbmhaaGreatDoorProg
import Derived.Test.YtjjlmkleidbmhaaGreatDoorZ03
import Derived.Test.YtjjlmkleidbmhaaGreatDoorZ01
import Derived.BigQuiet
import Derived.Test.YtjjlmkleidbmhaaGreatDoorZ08
import Derived.Test.YtjjlmkleidbmhaaGreatDoorZ06
import Derived.Test.YtjjlmkleidbmhaaGreatDoorZ02
section
section
namespace Go.Nst
set_option linter.unusedVariables false

def allR (f : Nat → Bool) : Nat → Nat → Bool
  | 0, lo => f lo
  | k + 1, lo => and (allR f k lo) (allR f k (Nat.add lo (Nat.pow 2 k)))
theorem allR_at (f : Nat → Bool) : ∀ (k lo o : Nat), allR f k lo = true → lo ≤ o → o < lo + 2 ^ k → f o = true
  | 0, lo, o, h, h1, h2 => by
    obtain rfl : o = lo := by simp at h2; omega
    exact h
  | k + 1, lo, o, h, h1, h2 => by
    simp only [allR, Bool.and_eq_true] at h
    by_cases hm : o < lo + 2 ^ k
    · exact allR_at f k lo o h.1 h1 hm
    · exact allR_at f k (lo + 2 ^ k) o h.2 (by omega) (by rw [Nat.pow_succ] at h2; omega)
/-- is o a day of the year y of its 400 years? -/
def chkY (o y : Nat) : Bool := and (Nat.ble y 399) (and (Nat.ble (Nat.add (Nat.mul 365 y) (Nat.div y 4)) (Nat.add o (Nat.div y 100))) (Nat.blt (Nat.add o (Nat.div (Nat.succ y) 100)) (Nat.add (Nat.add (Nat.mul 365 (Nat.succ y)) (Nat.div (Nat.succ y) 4)) (Nat.div (Nat.succ y) 400))))
def chk (o : Nat) : Bool := or (Nat.ble 146097 o) (chkY o (Nat.div (Nat.sub (Nat.sub (Nat.add o (Nat.div o 36524)) (Nat.div o 1460)) (Nat.div o 146096)) 365))
theorem t18 : allR chk 18 0 = true := by decide +kernel
theorem of_tab (o : Int) (h0 : 0 ≤ o) (h1 : o ≤ 146096) (y : Int) (hy : y = (o - o / 1460 + o / 36524 - o / 146096) / 365) : 0 ≤ y ∧ y ≤ 399 ∧ 0 ≤ o - (365 * y + y / 4 - y / 100) ∧ o < 365 * (y + 1) + (y + 1) / 4 - (y + 1) / 100 + (y + 1) / 400 := by
  obtain ⟨a, rfl⟩ := Int.eq_ofNat_of_zero_le h0
  have h := allR_at chk 18 0 a t18 (by omega) (by omega)
  obtain ⟨b, hb⟩ : ∃ b : Nat, b = (a + a / 36524 - a / 1460 - a / 146096) / 365 := ⟨_, rfl⟩
  have hyb : y = (b : Int) := by rw [hy, hb]; omega
  have h' : (Nat.ble 146097 a || chkY a b) = true := by rw [hb]; exact h
  have hn : Nat.ble 146097 a = false := by
    cases hq : Nat.ble 146097 a with
    | false => rfl
    | true => have := Nat.le_of_ble_eq_true hq; omega
  rw [hn, Bool.false_or] at h'
  simp only [chkY, Bool.and_eq_true] at h'
  obtain ⟨k1, k2, k3⟩ := h'
  have k1 := Nat.le_of_ble_eq_true k1
  have k2 := Nat.le_of_ble_eq_true k2
  have k3 : a + (b + 1) / 100 < 365 * (b + 1) + (b + 1) / 4 + (b + 1) / 400 := Nat.le_of_ble_eq_true k3
  have k2 : 365 * b + b / 4 ≤ a + b / 100 := k2
  subst hyb
  obtain ⟨c, hc⟩ : ∃ c : Nat, c = b + 1 := ⟨_, rfl⟩
  rw [← hc] at k3
  rw [show (b : Int) + 1 = (c : Int) by omega]
  clear hb hy h hn
  refine ⟨by omega, by omega, by omega, by omega⟩
end Go.Nst
end
section
namespace Go.Proofs.YtjjlmkleidbmhaaGreatDoor
open Go.RowKit Go.Nst
set_option maxRecDepth 100000
set_option linter.unusedVariables false
set_option linter.unusedSimpArgs false

theorem leap_cases (y : Int) : ((y % 4 == 0) = false ∧ (y % 400 == 0) = false ∧ leapB y = false) ∨ ((y % 4 == 0) = true ∧ (y % 100 != 0) = true ∧ (y % 100 == 0) = false ∧ leapB y = true) ∨ ((y % 4 == 0) = true ∧ (y % 100 != 0) = false ∧ (y % 100 == 0) = true ∧ (y % 400 == 0) = true ∧ leapB y = true) ∨ ((y % 4 == 0) = true ∧ (y % 100 != 0) = false ∧ (y % 100 == 0) = true ∧ (y % 400 == 0) = false ∧ leapB y = false) := by
  unfold leapB
  by_cases a : y % 4 = 0 <;> by_cases b : y % 100 = 0 <;> by_cases c : y % 400 = 0 <;> simp [a, b, c] <;> omega
set_option maxHeartbeats 1000000 in
theorem refLeap_any (y : Int) (w : World) (h0 : 0 ≤ y) (h1 : y ≤ 100000) : Calls Tryz.prog 103 #[.int .i64 y] w fun e w' => e = .returned (.bool (leapB y)) ∧ w = w' := by
  rcases leap_cases y with ⟨a, b, hl⟩ | ⟨a, b, b', hl⟩ | ⟨a, b, b', c, hl⟩ | ⟨a, b, b', c, hl⟩
  all_goals
    rw [hl]
    clear hl
    go_enter Tryz.func103, Tryz.ntmps103
    go_wp2_with fail
    go_ret
    exact ⟨rfl, rfl⟩
set_option maxHeartbeats 1000000 in
theorem leap4_any (y : Int) (w : World) (h0 : 0 ≤ y) (h1 : y ≤ 100000) : Calls Tryz.prog 184 #[.int .i64 y] w fun e w' => e = .returned (.bool (leapB y)) ∧ w = w' := by
  rcases leap_cases y with ⟨a, b, hl⟩ | ⟨a, b, b', hl⟩ | ⟨a, b, b', c, hl⟩ | ⟨a, b, b', c, hl⟩
  all_goals
    rw [hl]
    clear hl
    go_enter Tryz.func184, Tryz.ntmps184
    go_wp2_with fail
    go_ret
    exact ⟨rfl, rfl⟩
theorem daysM_out {y m : Int} (h : y < 1 ∨ 9999 < y ∨ m < 1 ∨ 12 < m) : daysM y m = 0 := by unfold daysM; rw [if_pos h]
theorem daysM_two {y : Int} (h0 : 1 ≤ y) (h1 : y ≤ 9999) : daysM y 2 = if leapB y then 29 else 28 := by rw [daysM_in h0 h1 (by omega) (by omega)]; rfl

set_option maxHeartbeats 4000000 in
theorem refDays_any (y m : Int) (w : World) : Calls Tryz.prog 85 #[.int .i64 y, .int .i64 m] w fun e w' => e = .returned (.int .i64 (daysM y m)) ∧ w = w' := by
  by_cases h1 : y < 1
  · rw [daysM_out (.inl h1)]
    have d1 : decide (y < 1) = true := by simp; omega
    go_enter Tryz.func85, Tryz.ntmps85
    go_wp2_with fail
    go_ret
    exact ⟨rfl, rfl⟩
  have d1 : decide (y < 1) = false := by simp; omega
  by_cases h2 : 9999 < y
  · rw [daysM_out (.inr (.inl h2))]
    have d2 : decide (9999 < y) = true := by simp; omega
    go_enter Tryz.func85, Tryz.ntmps85
    go_wp2_with fail
    go_ret
    exact ⟨rfl, rfl⟩
  have d2 : decide (9999 < y) = false := by simp; omega
  by_cases m1 : m = 1
  · subst m1
    rw [show daysM y 1 = 31 from (daysM_in (by omega) (by omega) (by omega) (by omega)).trans rfl]
    go_enter Tryz.func85, Tryz.ntmps85
    go_wp2_with fail
    go_ret
    exact ⟨rfl, rfl⟩
  by_cases m2 : m = 2
  · subst m2
    rw [daysM_two (by omega) (by omega)]
    have HL := Lib.hid (refLeap_any y w (by omega) (by omega))
    cases hl : leapB y with
    | true =>
      rw [hl] at HL
      clear hl
      go_enter Tryz.func85, Tryz.ntmps85
      go_wp2_with fail
      (with_reducible refine (HL.out).mono ?_)
      rintro e w1 ⟨rfl, rfl⟩
      go_wp2_with fail
      go_ret
      exact ⟨rfl, rfl⟩
    | false =>
      rw [hl] at HL
      clear hl
      go_enter Tryz.func85, Tryz.ntmps85
      go_wp2_with fail
      (with_reducible refine (HL.out).mono ?_)
      rintro e w1 ⟨rfl, rfl⟩
      go_wp2_with fail
      go_ret
      exact ⟨rfl, rfl⟩
  by_cases m3 : m = 3
  · subst m3
    rw [show daysM y 3 = 31 from (daysM_in (by omega) (by omega) (by omega) (by omega)).trans rfl]
    go_enter Tryz.func85, Tryz.ntmps85
    go_wp2_with fail
    go_ret
    exact ⟨rfl, rfl⟩
  by_cases m4 : m = 4
  · subst m4
    rw [show daysM y 4 = 30 from (daysM_in (by omega) (by omega) (by omega) (by omega)).trans rfl]
    go_enter Tryz.func85, Tryz.ntmps85
    go_wp2_with fail
    go_ret
    exact ⟨rfl, rfl⟩
  by_cases m5 : m = 5
  · subst m5
    rw [show daysM y 5 = 31 from (daysM_in (by omega) (by omega) (by omega) (by omega)).trans rfl]
    go_enter Tryz.func85, Tryz.ntmps85
    go_wp2_with fail
    go_ret
    exact ⟨rfl, rfl⟩
  by_cases m6 : m = 6
  · subst m6
    rw [show daysM y 6 = 30 from (daysM_in (by omega) (by omega) (by omega) (by omega)).trans rfl]
    go_enter Tryz.func85, Tryz.ntmps85
    go_wp2_with fail
    go_ret
    exact ⟨rfl, rfl⟩
  by_cases m7 : m = 7
  · subst m7
    rw [show daysM y 7 = 31 from (daysM_in (by omega) (by omega) (by omega) (by omega)).trans rfl]
    go_enter Tryz.func85, Tryz.ntmps85
    go_wp2_with fail
    go_ret
    exact ⟨rfl, rfl⟩
  by_cases m8 : m = 8
  · subst m8
    rw [show daysM y 8 = 31 from (daysM_in (by omega) (by omega) (by omega) (by omega)).trans rfl]
    go_enter Tryz.func85, Tryz.ntmps85
    go_wp2_with fail
    go_ret
    exact ⟨rfl, rfl⟩
  by_cases m9 : m = 9
  · subst m9
    rw [show daysM y 9 = 30 from (daysM_in (by omega) (by omega) (by omega) (by omega)).trans rfl]
    go_enter Tryz.func85, Tryz.ntmps85
    go_wp2_with fail
    go_ret
    exact ⟨rfl, rfl⟩
  by_cases m10 : m = 10
  · subst m10
    rw [show daysM y 10 = 31 from (daysM_in (by omega) (by omega) (by omega) (by omega)).trans rfl]
    go_enter Tryz.func85, Tryz.ntmps85
    go_wp2_with fail
    go_ret
    exact ⟨rfl, rfl⟩
  by_cases m11 : m = 11
  · subst m11
    rw [show daysM y 11 = 30 from (daysM_in (by omega) (by omega) (by omega) (by omega)).trans rfl]
    go_enter Tryz.func85, Tryz.ntmps85
    go_wp2_with fail
    go_ret
    exact ⟨rfl, rfl⟩
  by_cases m12 : m = 12
  · subst m12
    rw [show daysM y 12 = 31 from (daysM_in (by omega) (by omega) (by omega) (by omega)).trans rfl]
    go_enter Tryz.func85, Tryz.ntmps85
    go_wp2_with fail
    go_ret
    exact ⟨rfl, rfl⟩
  have e1 : (m == 1) = false := by simp; omega
  have e2 : (m == 2) = false := by simp; omega
  have e3 : (m == 3) = false := by simp; omega
  have e4 : (m == 4) = false := by simp; omega
  have e5 : (m == 5) = false := by simp; omega
  have e6 : (m == 6) = false := by simp; omega
  have e7 : (m == 7) = false := by simp; omega
  have e8 : (m == 8) = false := by simp; omega
  have e9 : (m == 9) = false := by simp; omega
  have e10 : (m == 10) = false := by simp; omega
  have e11 : (m == 11) = false := by simp; omega
  have e12 : (m == 12) = false := by simp; omega
  rw [daysM_out (by omega)]
  clear m1 m2 m3 m4 m5 m6 m7 m8 m9 m10 m11 m12
  go_enter Tryz.func85, Tryz.ntmps85
  go_wp2_with fail
  go_ret
  exact ⟨rfl, rfl⟩

theorem ahead_any (y : Int) (w : World) (h0 : 1 ≤ y) (h1 : y ≤ 100000) : Calls Tryz.prog 84 #[.int .i64 y] w fun e w' => e = .returned (.int .i64 (aheadY y)) ∧ w = w' := by
  go_enter Tryz.func84, Tryz.ntmps84
  go_wp2_with fail
  go_ret
  exact ⟨rfl, rfl⟩
theorem aheadY_bd {y : Int} (h0 : 1 ≤ y) (h1 : y ≤ 100000) : 0 ≤ aheadY y ∧ aheadY y ≤ 40000000 := by unfold aheadY; omega
theorem daysM_bd (y m : Int) : 0 ≤ daysM y m ∧ daysM y m ≤ 31 := by unfold daysM; (repeat' split) <;> omega
theorem cumN_bd (y : Int) : ∀ k : Nat, 0 ≤ cumN y k ∧ cumN y k ≤ 31 * k
  | 0 => by simp [cumN]
  | k + 1 => by
    have := cumN_bd y k
    have := daysM_bd y k
    simp only [cumN]
    split <;> omega

set_option maxHeartbeats 1000000 in
theorem day_any (y : Int) (m : Nat) (d : Int) (w : World) (h0 : 1 ≤ y) (h1 : y ≤ 9999) (hm1 : 1 ≤ m) (hm2 : m ≤ 12) (hd0 : -100000 ≤ d) (hd1 : d ≤ 100000) : Calls Tryz.prog 102 #[.int .i64 y, .int .i64 (m : Int), .int .i64 d] w fun e w' => e = .returned (.int .i64 (dayR y m d)) ∧ w = w' := by
  have HA := Lib.hid (ahead_any y w h0 (by omega))
  have HD := Lib.hid (show dayR y m d = aheadY y + d - 1 + cumN y m from rfl)
  have hab := aheadY_bd h0 (show y ≤ 100000 by omega)
  generalize aheadY y = a at *
  go_enter Tryz.func102, Tryz.ntmps102
  go_wp2_with fail
  (with_reducible refine (HA.out).mono ?_)
  rintro e w1 ⟨rfl, rfl⟩
  go_wp2_with fail
  go_loop [7, 8] (fun v i => ∃ (k : Nat) (z : Int), i = .int .i64 (k : Int) ∧ v = .int .i64 z ∧ 1 ≤ k ∧ k ≤ m ∧ -200000 ≤ z ∧ z ≤ 50000000 ∧ Hid (z = a + d - 1 + cumN y k)) (fun _ i => m - (intOf i).toNat)
  case atStart => exact ⟨1, _, rfl, rfl, by omega, by omega, by omega, by omega, Lib.hid (by rw [(show cumN y 1 = 0 from rfl)]; omega)⟩
  case round =>
    obtain ⟨k, z, rfl, rfl, hk1, hk2, hz1, hz2, HZ⟩ := hrel
    by_cases hlt : k < m
    · have HDY := Lib.hid (refDays_any y (k : Int) w)
      have hdb := daysM_bd y (k : Int)
      have hc := cumN_bd y (k + 1)
      have HS := Lib.hid ((show cumN y (k + 1) = cumN y k + daysM y k by simp only [cumN]; rw [if_neg (by omega)]))
      have HN : Hid (z + daysM y (k : Int) = a + d - 1 + cumN y (k + 1)) := Lib.hid (by rw [HS.out, HZ.out]; omega)
      have hb1 : z + daysM y (k : Int) ≤ 50000000 := by rw [HN.out]; omega
      have hb2 : -200000 ≤ z + daysM y (k : Int) := by omega
      clear HS hc
      generalize daysM y (k : Int) = q at *
      go_wp2_with fail
      (with_reducible refine (HDY.out).mono ?_)
      rintro e w1 ⟨rfl, rfl⟩
      go_wp2_with fail
      go_round
      case rel => exact ⟨k + 1, z + q, by go_num, rfl, by omega, by omega, hb2, hb1, HN⟩
      case measure => simp [intOf]; omega
    · obtain rfl : k = m := by omega
      have HE : Hid (dayR y k d = z) := Lib.hid (by rw [HD.out, HZ.out])
      go_wp2_with fail
      go_ret
      rw [HE.out]
      exact ⟨rfl, rfl⟩
theorem zero_any (w : World) : Calls Tryz.prog 83 #[] w fun e w' => e = .returned (.int .i64 62135596800) ∧ w = w' := by
  have HD := Lib.hid (day_any 1970 1 1 w (by omega) (by omega) (by omega) (by omega) (by omega) (by omega))
  rw [dayR_1970, show ((1 : Nat) : Int) = 1 from rfl] at HD
  go_enter Tryz.func83, Tryz.ntmps83
  go_wp2_with fail
  (with_reducible refine (HD.out).mono ?_)
  rintro e w1 ⟨rfl, rfl⟩
  go_wp2_with fail
  go_ret
  exact ⟨rfl, rfl⟩
theorem first4_any (w : World) : Calls Tryz.prog 81 #[] w fun e w' => e = .returned (.int .i64 (-62135596800)) ∧ w = w' := by
  go_enter Tryz.func81, Tryz.ntmps81
  go_wp2_with fail
  (with_reducible refine (zero_any w).mono ?_)
  rintro e w1 ⟨rfl, rfl⟩
  go_wp2_with fail
  go_ret
  exact ⟨rfl, rfl⟩
theorem within_any (n a b : Int) (w : World) : Calls Tryz.prog 87 #[.int .i64 n, .int .i64 a, .int .i64 b] w fun e w' => e = .returned (.bool (decide (a ≤ n) && decide (n ≤ b))) ∧ w = w' := by
  by_cases h1 : a ≤ n
  · have d1 : decide (a ≤ n) = true := by simpa using h1
    rw [d1, Bool.true_and]
    go_enter Tryz.func87, Tryz.ntmps87
    go_wp2_with fail
    go_ret
    exact ⟨rfl, rfl⟩
  · have d1 : decide (a ≤ n) = false := by simpa using h1
    rw [d1, Bool.false_and]
    go_enter Tryz.func87, Tryz.ntmps87
    go_wp2_with fail
    go_ret
    exact ⟨rfl, rfl⟩

def Dt.cells (x : Dt) : Array Value := #[.int .i64 x.y, .int .i64 x.m, .int .i64 x.d, .int .i64 x.h, .int .i64 x.mi, .int .i64 x.s]
def Dt.val (x : Dt) : Value := .agg (Dt.cells x)
theorem dayR_bd {y : Int} {m : Nat} {d : Int} (h0 : 1 ≤ y) (h1 : y ≤ 9999) (hm2 : m ≤ 12) (hd0 : -100000 ≤ d) (hd1 : d ≤ 100000) : -200000 ≤ dayR y m d ∧ dayR y m d ≤ 50000000 := by
  have := aheadY_bd h0 (show y ≤ 100000 by omega)
  have := cumN_bd y m
  unfold dayR
  omega
set_option maxHeartbeats 1000000 in
theorem refMoment_any (y : Int) (m : Nat) (d h mi s : Int) (w : World) (h0 : 1 ≤ y) (h1 : y ≤ 9999) (hm1 : 1 ≤ m) (hm2 : m ≤ 12) (hd0 : -100000 ≤ d) (hd1 : d ≤ 100000) (hh0 : 0 ≤ h) (hh1 : h ≤ 23) (hi0 : 0 ≤ mi) (hi1 : mi ≤ 59) (hs0 : 0 ≤ s) (hs1 : s ≤ 59) :
    Calls Tryz.prog 101 #[.agg #[.int .i64 y, .int .i64 (m : Int), .int .i64 d, .int .i64 h, .int .i64 mi, .int .i64 s]] w fun e w' => e = .returned (.int .i64 (86400 * dayR y m d + 3600 * h + 60 * mi + s - 62135596800)) ∧ Below w.heap.size w w' := by
  have HD := Lib.hid (fun W => day_any y m d W h0 h1 hm1 hm2 hd0 hd1)
  have hb := dayR_bd h0 h1 hm2 hd0 hd1
  generalize dayR y m d = r at *
  have k1 : IntKind.i64.wrap (86400 * r) = 86400 * r := IntWalk.i64_in _ (by omega)
  have k2 : IntKind.i64.wrap (3600 * h) = 3600 * h := IntWalk.i64_in _ (by omega)
  have k3 : IntKind.i64.wrap (86400 * r + 3600 * h) = 86400 * r + 3600 * h := IntWalk.i64_in _ (by omega)
  have k4 : IntKind.i64.wrap (60 * mi) = 60 * mi := IntWalk.i64_in _ (by omega)
  have k5 : IntKind.i64.wrap (86400 * r + 3600 * h + 60 * mi) = 86400 * r + 3600 * h + 60 * mi := IntWalk.i64_in _ (by omega)
  have k6 : IntKind.i64.wrap (86400 * r + 3600 * h + 60 * mi + s) = 86400 * r + 3600 * h + 60 * mi + s := IntWalk.i64_in _ (by omega)
  have k7 : IntKind.i64.wrap (86400 * r + 3600 * h + 60 * mi + s - 62135596800) = 86400 * r + 3600 * h + 60 * mi + s - 62135596800 := IntWalk.i64_in _ (by omega)
  go_enter Tryz.func101, Tryz.ntmps101
  go_wp2_with fail
  go_quiet (first | (go_at_call 102; exact quiet_same (HD.out _)) | (go_at_call 83; exact quiet_same (zero_any _)))
  go_wp2_with fail
  go_ret
  exact ⟨rfl, Nst.below_drewN (bel_alloc (Below.refl _ _) _) _⟩
theorem last_any (w : World) : Calls Tryz.prog 82 #[] w fun e w' => e = .returned (.int .i64 253402300799) ∧ Below w.heap.size w w' := by
  have HM := Lib.hid (fun W => refMoment_any 9999 12 31 23 59 59 W (by omega) (by omega) (by omega) (by omega) (by omega) (by omega) (by omega) (by omega) (by omega) (by omega) (by omega) (by omega))
  rw [dayR_last, show ((12 : Nat) : Int) = 12 from rfl] at HM
  go_enter Tryz.func82, Tryz.ntmps82
  go_wp2_with fail
  (with_reducible refine (HM.out _).mono ?_)
  rintro e w1 ⟨rfl, hb⟩
  go_wp2_with fail
  go_ret
  exact ⟨rfl, hb⟩
theorem refMay4_any (n : Int) (w : World) : Calls Tryz.prog 64 #[.int .i64 n] w fun e w' => e = .returned (.bool (mayM n)) ∧ Below w.heap.size w w' := by
  have HM : Hid (mayM n = (decide (-62135596800 ≤ n) && decide (n ≤ 253402300799))) := rfl
  by_cases h1 : -62135596800 ≤ n
  · have d1 : decide (-62135596800 ≤ n) = true := by simpa using h1
    rw [d1, Bool.true_and] at HM
    go_enter Tryz.func64, Tryz.ntmps64
    go_wp2_with fail
    (with_reducible refine (first4_any w).mono ?_)
    rintro e w1 ⟨rfl, rfl⟩
    go_wp2_with fail
    (with_reducible refine (last_any w).mono ?_)
    rintro e w2 ⟨rfl, hb⟩
    go_wp2_with fail
    go_ret
    exact ⟨by rw [HM.out]; rfl, hb⟩
  · have d1 : decide (-62135596800 ≤ n) = false := by simpa using h1
    rw [d1, Bool.false_and] at HM
    go_enter Tryz.func64, Tryz.ntmps64
    go_wp2_with fail
    (with_reducible refine (first4_any w).mono ?_)
    rintro e w1 ⟨rfl, rfl⟩
    go_wp2_with fail
    go_ret
    exact ⟨by rw [HM.out]; rfl, Below.refl _ _⟩
set_option maxHeartbeats 1000000 in
theorem of_no (n : Int) (w : World) (h : mayM n = false) : Calls Tryz.prog 69 #[.int .i64 n] w fun e w' => e = .returned (.tuple #[Dt.val Dt.zero, .int .i64 40]) ∧ Below w.heap.size w w' := by
  have HW := Lib.hid (fun W => within_any n (-62135596800) 253402300799 W)
  rw [show (decide (-62135596800 ≤ n) && decide (n ≤ 253402300799)) = false from h] at HW
  clear h
  go_enter Tryz.func69, Tryz.ntmps69
  go_wp2_with fail
  (with_reducible refine (HW.out _).mono ?_)
  rintro e w1 ⟨rfl, rfl⟩
  go_wp2_with fail
  exact bodyPost_ret (v := .tuple #[Dt.val Dt.zero, .int .i64 40]) (by simp [results, Tryz.results69, go_sem, Dt.val, Dt.cells, Dt.zero]) rfl ⟨rfl, bel_alloc (Below.refl _ _) _⟩

theorem mayM_iff {n : Int} : mayM n = true ↔ -62135596800 ≤ n ∧ n ≤ 253402300799 := by unfold mayM; simp
theorem of_bounds {n : Int} (h : mayM n = true) : (0 ≤ n + 62135596800 ∧ n + 62135596800 ≤ 315537897599) ∧ (306 ≤ ofN n ∧ ofN n ≤ 3652364) ∧ (0 ≤ ofO n ∧ ofO n ≤ 146096) ∧ (0 ≤ ofY n ∧ ofY n ≤ 399) ∧ (0 ≤ ofI n ∧ ofI n ≤ 365) ∧ (0 ≤ ofM n ∧ ofM n ≤ 11) := by
  rw [mayM_iff] at h
  have h1 : 306 ≤ ofN n ∧ ofN n ≤ 3652364 := by unfold ofN; omega
  have h2 : 0 ≤ ofO n ∧ ofO n ≤ 146096 := by unfold ofO; omega
  obtain ⟨t1, t2, t3, t4⟩ := of_tab (ofO n) h2.1 h2.2 (ofY n) rfl
  have h4 : 0 ≤ ofI n ∧ ofI n ≤ 365 := by unfold ofI; omega
  have h5 : 0 ≤ ofM n ∧ ofM n ≤ 11 := by unfold ofM; omega
  exact ⟨by omega, h1, h2, ⟨t1, t2⟩, h4, h5⟩
set_option maxHeartbeats 2000000 in
theorem of_yes (n : Int) (w : World) (h : mayM n = true) : Calls Tryz.prog 69 #[.int .i64 n] w fun e w' => e = .returned (.tuple #[Dt.val (ofD n), .int .i64 0]) ∧ Below w.heap.size w w' := by
  have hb := of_bounds h
  have HW := Lib.hid (fun W => within_any n (-62135596800) 253402300799 W)
  rw [show (decide (-62135596800 ≤ n) && decide (n ≤ 253402300799)) = true from h] at HW
  have HD : Hid (ofD n = if 12 < ofM n + 3 then ⟨ofY n + 400 * (ofN n / 146097) + 1, ofM n + 3 - 12, ofI n - (153 * ofM n + 2) / 5 + 1, (n + 62135596800) % 86400 / 3600, (n + 62135596800) % 86400 / 60 % 60, (n + 62135596800) % 86400 % 60⟩ else ⟨ofY n + 400 * (ofN n / 146097), ofM n + 3, ofI n - (153 * ofM n + 2) / 5 + 1, (n + 62135596800) % 86400 / 3600, (n + 62135596800) % 86400 / 60 % 60, (n + 62135596800) % 86400 % 60⟩) := rfl
  have eN : (n + 62135596800) / 86400 + 306 = ofN n := rfl
  have eO : ofN n % 146097 = ofO n := rfl
  have eY : (ofO n - ofO n / 1460 + ofO n / 36524 - ofO n / 146096) / 365 = ofY n := rfl
  have eI : ofO n - (365 * ofY n + ofY n / 4 - ofY n / 100) = ofI n := rfl
  have eM : (5 * ofI n + 2) / 153 = ofM n := rfl
  rw [mayM_iff] at h
  obtain ⟨hw, hN, hO, hY, hI, hM⟩ := hb
  generalize ofN n = N at *
  generalize ofO n = O at *
  generalize ofY n = Y at *
  generalize ofI n = I at *
  generalize ofM n = M at *
  by_cases h12 : 12 < M + 3
  · have HD2 := Lib.hid (HD.out.trans (if_pos h12))
    have d12 : decide (12 < M + 3) = true := by simp; omega
    clear HD
    go_enter Tryz.func69, Tryz.ntmps69
    go_wp2_with fail
    (with_reducible refine (HW.out _).mono ?_)
    rintro e w1 ⟨rfl, rfl⟩
    go_wp2_with fail
    rw [HD2.out]
    exact bodyPost_ret (v := .tuple #[Dt.val ⟨Y + 400 * (N / 146097) + 1, M + 3 - 12, I - (153 * M + 2) / 5 + 1, (n + 62135596800) % 86400 / 3600, (n + 62135596800) % 86400 / 60 % 60, (n + 62135596800) % 86400 % 60⟩, .int .i64 0]) (by simp [results, Tryz.results69, go_sem, Dt.val, Dt.cells]) rfl ⟨rfl, bel_alloc (bel_alloc (Below.refl _ _) _) _⟩
  · have HD2 := Lib.hid (HD.out.trans (if_neg h12))
    have d12 : decide (12 < M + 3) = false := by simp; omega
    clear HD
    go_enter Tryz.func69, Tryz.ntmps69
    go_wp2_with fail
    (with_reducible refine (HW.out _).mono ?_)
    rintro e w1 ⟨rfl, rfl⟩
    go_wp2_with fail
    rw [HD2.out]
    exact bodyPost_ret (v := .tuple #[Dt.val ⟨Y + 400 * (N / 146097), M + 3, I - (153 * M + 2) / 5 + 1, (n + 62135596800) % 86400 / 3600, (n + 62135596800) % 86400 / 60 % 60, (n + 62135596800) % 86400 % 60⟩, .int .i64 0]) (by simp [results, Tryz.results69, go_sem, Dt.val, Dt.cells]) rfl ⟨rfl, bel_alloc (bel_alloc (Below.refl _ _) _) _⟩
end Go.Proofs.YtjjlmkleidbmhaaGreatDoor
end
end
section
namespace Go.Proofs.YtjjlmkleidbmhaaGreatDoor
open Go.RowKit Go.Nst
set_option maxRecDepth 100000
set_option linter.unusedVariables false
set_option linter.unusedSimpArgs false

def textB (l : List UInt8) (most : Int) : Bool := decide ((l.length : Int) ≤ most) && (rightL l && (cleanT l == l))
def neB (l : List UInt8) : Bool := !l.isEmpty
def labelB (l : List UInt8) : Bool := neB l && textB l 64
def tagB (l : List UInt8) : Bool := labelB l && wordB l
theorem sameS_any (A A2 : Option Addr) (n c n2 c2 : Nat) (l l2 : List (List UInt8)) (w : World) (h1 : Ss w A n l) (h2 : Ss w A2 n2 l2) (hn : n ≤ 1000000) (hn2 : n2 ≤ 1000000) :
    Calls Tryz.prog 79 #[.slice A n c, .slice A2 n2 c2] w fun e w' => e = .returned (.bool (l == l2)) ∧ Below w.heap.size w w' := by
  have e1 := h1.len
  have e2 := h2.len
  by_cases hnn : n = n2
  · subst hnn
    go_enter Tryz.func79, Tryz.ntmps79
    go_wp2_with fail
    go_loopw [5] (fun i wr => ∃ k q : Nat, i = .int .i64 (k : Int) ∧ k ≤ n ∧ wr = w.drewN q ∧ Hid (l.take k = l2.take k)) (fun i _ => n - (intOf i).toNat)
    case atStart => exact ⟨0, 0, rfl, by omega, rfl, Lib.hid rfl⟩
    case round =>
      obtain ⟨k, q, rfl, hk, rfl, HT⟩ := hrel
      by_cases hlt : k < n
      · obtain ⟨z, b, off, rfl, hz, hb, hc⟩ := Ss.at h1 hlt
        obtain ⟨z2, b2, off2, rfl, hz2, hb2, hc2⟩ := Ss.at h2 hlt
        have hcq : (w.drewN q).cell? ⟨b, off + k, none⟩ = some (.string ⟨z.toArray⟩) := hc
        have hcq2 : (w.drewN q).cell? ⟨b2, off2 + k, none⟩ = some (.string ⟨z2.toArray⟩) := hc2
        by_cases hzz : z = z2
        · subst hzz
          have HN : Hid (l.take (k + 1) = l2.take (k + 1)) := Lib.hid (by rw [List.take_add_one, List.take_add_one, HT.out, hz.out, hz2.out])
          go_wp2_with fail
          go_quiet (fail)
          go_wp2_with fail
          go_roundw
          case rel => exact ⟨k + 1, q + nq, by go_num, by omega, rfl, HN⟩
          case measure => simp [intOf]; omega
        · have HN : Hid ((l == l2) = false) := Lib.hid (by
            rw [beq_eq_false_iff_ne]
            intro e
            subst e
            have h3 := hz.out
            rw [hz2.out] at h3
            injection h3 with h3
            exact hzz h3.symm)
          have d1 : (z == z2) = false := by simpa using hzz
          have d2 : (z != z2) = true := by simpa using hzz
          go_wp2_with fail
          go_quiet (fail)
          go_wp2_with fail
          go_ret
          rw [HN.out]
          exact ⟨rfl, Nst.below_drewN (Nst.below_drewN (Below.refl _ _) q) nq⟩
      · have HN : Hid ((l == l2) = true) := Lib.hid (by
          have h3 := HT.out
          rw [List.take_of_length_le (by omega), List.take_of_length_le (by omega)] at h3
          rw [beq_iff_eq]
          exact h3)
        go_wp2_with fail
        go_ret
        rw [HN.out]
        exact ⟨rfl, Nst.below_drewN (Below.refl _ _) q⟩
  · have hne : (l == l2) = false := by
      rw [beq_eq_false_iff_ne]
      intro e
      exact hnn (by rw [← e1, ← e2, e])
    rw [hne]
    have d1 : ((n : Int) != (n2 : Int)) = true := by simp; omega
    clear hne
    go_enter Tryz.func79, Tryz.ntmps79
    go_wp2_with fail
    go_ret
    exact ⟨rfl, Below.refl _ _⟩

set_option maxHeartbeats 1000000 in
theorem text14_any (l : List UInt8) (most : Int) (w : World) (hS : l.length ≤ 20000) : Calls Tryz.prog 107 #[.string ⟨l.toArray⟩, .int .i64 most] w fun e w' => e = .returned (.bool (textB l most)) ∧ Below w.heap.size w w' := by
  have HB : Hid (textB l most = (decide ((l.length : Int) ≤ most) && (rightL l && (cleanT l == l)))) := rfl
  have HR := Lib.hid (fun W => right_any ⟨l.toArray⟩ W (by rw [size_of]; omega))
  rw [bl_of] at HR
  have HC := Lib.hid (fun W => clean_any ⟨l.toArray⟩ W (by rw [size_of]; omega))
  rw [bl_of] at HC
  generalize cleanT l = cl at *
  by_cases h1 : (l.length : Int) ≤ most
  · have d1 : decide ((l.length : Int) ≤ most) = true := by simpa using h1
    rw [d1, Bool.true_and] at HB
    cases hr : rightL l with
    | false =>
      rw [hr] at HR HB
      clear hr
      go_enter Tryz.func107, Tryz.ntmps107
      go_wp2_with fail
      (with_reducible refine (HR.out _).mono ?_)
      rintro e w1 ⟨rfl, B1⟩
      go_wp2_with fail
      go_ret
      exact ⟨by rw [HB.out]; rfl, B1⟩
    | true =>
      rw [hr, Bool.true_and] at HB
      rw [hr] at HR
      clear hr
      go_enter Tryz.func107, Tryz.ntmps107
      go_wp2_with fail
      (with_reducible refine (HR.out _).mono ?_)
      rintro e w1 ⟨rfl, B1⟩
      go_wp2_with fail
      (with_reducible refine (HC.out _).mono ?_)
      rintro e w2 ⟨rfl, hb⟩
      go_wp2_with fail
      go_ret
      exact ⟨by rw [HB.out]; rfl, bel_step B1 hb⟩
  · have d1 : decide ((l.length : Int) ≤ most) = false := by simpa using h1
    rw [d1, Bool.false_and] at HB
    go_enter Tryz.func107, Tryz.ntmps107
    go_wp2_with fail
    go_ret
    exact ⟨by rw [HB.out]; rfl, Below.refl _ _⟩
set_option maxHeartbeats 1000000 in
theorem refText14_any (l : List UInt8) (most : Int) (w : World) (hS : l.length ≤ 20000) : Calls Tryz.prog 97 #[.string ⟨l.toArray⟩, .int .i64 most] w fun e w' => e = .returned (.bool (textB l most)) ∧ Below w.heap.size w w' := by
  have HB : Hid (textB l most = (decide ((l.length : Int) ≤ most) && (rightL l && (cleanT l == l)))) := rfl
  have HR := Lib.hid (fun W => refRight_any ⟨l.toArray⟩ W (by rw [size_of]; omega))
  rw [bl_of] at HR
  have HC := Lib.hid (fun W => refClean_any ⟨l.toArray⟩ W (by rw [size_of]; omega))
  rw [bl_of] at HC
  generalize cleanT l = cl at *
  by_cases h1 : (l.length : Int) ≤ most
  · have d1 : decide ((l.length : Int) ≤ most) = true := by simpa using h1
    rw [d1, Bool.true_and] at HB
    cases hr : rightL l with
    | false =>
      rw [hr] at HR HB
      clear hr
      go_enter Tryz.func97, Tryz.ntmps97
      go_wp2_with fail
      (with_reducible refine (HR.out _).mono ?_)
      rintro e w1 ⟨rfl, rfl⟩
      have B1 := Below.refl w.heap.size w
      go_wp2_with fail
      go_ret
      exact ⟨by rw [HB.out]; rfl, B1⟩
    | true =>
      rw [hr, Bool.true_and] at HB
      rw [hr] at HR
      clear hr
      go_enter Tryz.func97, Tryz.ntmps97
      go_wp2_with fail
      (with_reducible refine (HR.out _).mono ?_)
      rintro e w1 ⟨rfl, rfl⟩
      have B1 := Below.refl w.heap.size w
      go_wp2_with fail
      (with_reducible refine (HC.out _).mono ?_)
      rintro e w2 ⟨rfl, hb⟩
      go_wp2_with fail
      go_ret
      exact ⟨by rw [HB.out]; rfl, bel_step B1 hb⟩
  · have d1 : decide ((l.length : Int) ≤ most) = false := by simpa using h1
    rw [d1, Bool.false_and] at HB
    go_enter Tryz.func97, Tryz.ntmps97
    go_wp2_with fail
    go_ret
    exact ⟨by rw [HB.out]; rfl, Below.refl _ _⟩
theorem label_any (l : List UInt8) (w : World) (hS : l.length ≤ 20000) : Calls Tryz.prog 88 #[.string ⟨l.toArray⟩] w fun e w' => e = .returned (.bool (labelB l)) ∧ Below w.heap.size w w' := by
  have HB : Hid (labelB l = (neB l && textB l 64)) := rfl
  cases l with
  | nil =>
    go_enter Tryz.func88, Tryz.ntmps88
    go_wp2_with fail
    go_ret
    exact ⟨rfl, Below.refl _ _⟩
  | cons a t =>
    rw [show neB (a :: t) = true from rfl, Bool.true_and] at HB
    have HT := Lib.hid (fun W => text14_any (a :: t) 64 W hS)
    generalize hl : a :: t = l at *
    have hne1 : l.isEmpty = false := by rw [← hl]; rfl
    have hne2 : ¬ l = [] := by rw [← hl]; simp
    clear hl
    generalize textB l 64 = b at *
    go_enter Tryz.func88, Tryz.ntmps88
    go_wp2_with fail
    (with_reducible refine (HT.out _).mono ?_)
    rintro e w1 ⟨rfl, hb⟩
    go_wp2_with fail
    go_ret
    exact ⟨by rw [HB.out]; rfl, hb⟩
theorem refLabel_any (l : List UInt8) (w : World) (hS : l.length ≤ 20000) : Calls Tryz.prog 78 #[.string ⟨l.toArray⟩] w fun e w' => e = .returned (.bool (labelB l)) ∧ Below w.heap.size w w' := by
  have HB : Hid (labelB l = (neB l && textB l 64)) := rfl
  cases l with
  | nil =>
    go_enter Tryz.func78, Tryz.ntmps78
    go_wp2_with fail
    go_ret
    exact ⟨rfl, Below.refl _ _⟩
  | cons a t =>
    rw [show neB (a :: t) = true from rfl, Bool.true_and] at HB
    have HT := Lib.hid (fun W => refText14_any (a :: t) 64 W hS)
    generalize hl : a :: t = l at *
    have hne1 : l.isEmpty = false := by rw [← hl]; rfl
    have hne2 : ¬ l = [] := by rw [← hl]; simp
    clear hl
    generalize textB l 64 = b at *
    go_enter Tryz.func78, Tryz.ntmps78
    go_wp2_with fail
    (with_reducible refine (HT.out _).mono ?_)
    rintro e w1 ⟨rfl, hb⟩
    go_wp2_with fail
    go_ret
    exact ⟨by rw [HB.out]; rfl, hb⟩
theorem wordsL_len (l : List UInt8) : (wordsL l).length ≤ l.length := by
  unfold wordsL wordsR
  rw [List.length_map, List.length_map]
  have h1 := (runs_len ((runesI l).map foldC) []).2
  rw [List.length_map] at h1
  have h2 := runesI_le l
  simp at h1
  omega
theorem tag_any (l : List UInt8) (w : World) (hS : l.length ≤ 20000) : Calls Tryz.prog 70 #[.string ⟨l.toArray⟩] w fun e w' => e = .returned (.bool (tagB l)) ∧ Below w.heap.size w w' := by
  have HB : Hid (tagB l = (labelB l && wordB l)) := rfl
  have HL := Lib.hid (label_any l w hS)
  have HI := Lib.hid (fun W => isWord_any l W (by omega))
  generalize wordB l = wb at *
  cases hl : labelB l with
  | true =>
    rw [hl] at HL
    rw [hl, Bool.true_and] at HB
    clear hl
    go_enter Tryz.func70, Tryz.ntmps70
    go_wp2_with fail
    (with_reducible refine (HL.out).mono ?_)
    rintro e w1 ⟨rfl, B1⟩
    go_wp2_with fail
    (with_reducible refine (HI.out _).mono ?_)
    rintro e w2 ⟨rfl, hb⟩
    go_wp2_with fail
    go_ret
    exact ⟨by rw [HB.out]; rfl, bel_step B1 hb⟩
  | false =>
    rw [hl] at HL
    rw [hl, Bool.false_and] at HB
    clear hl
    go_enter Tryz.func70, Tryz.ntmps70
    go_wp2_with fail
    (with_reducible refine (HL.out).mono ?_)
    rintro e w1 ⟨rfl, B1⟩
    go_wp2_with fail
    go_ret
    exact ⟨by rw [HB.out]; rfl, B1⟩
theorem refTag_any (l : List UInt8) (w : World) (hS : l.length ≤ 20000) : Calls Tryz.prog 62 #[.string ⟨l.toArray⟩] w fun e w' => e = .returned (.bool (tagB l)) ∧ Below w.heap.size w w' := by
  have HB : Hid (tagB l = (labelB l && (wordsL l == [l]))) := rfl
  have HL := Lib.hid (refLabel_any l w hS)
  have HW := Lib.hid (fun W => refWords_any l W (by omega))
  have hwl := wordsL_len l
  generalize wordsL l = ws at *
  cases hl : labelB l with
  | true =>
    rw [hl] at HL
    rw [hl, Bool.true_and] at HB
    clear hl
    go_enter Tryz.func62, Tryz.ntmps62
    go_wp2_with fail
    (with_reducible refine (HL.out).mono ?_)
    rintro e w1 ⟨rfl, B1⟩
    go_wp2_with fail
    (with_reducible refine (HW.out _).mono ?_)
    rintro e w2 ⟨A2, n2, c2, rfl, ho2, hb⟩
    have B2 := bel_step B1 hb
    have q2 := ho2.ss
    have hn2 := q2.len
    clear hb ho2
    have hx := Ss.const w2 [l] #[.string ⟨l.toArray⟩] 9 (0, 0) 1 rfl rfl
    have q2' := q2.below (bel_alloc (Below.refl _ _) (.cells #[.string ⟨l.toArray⟩] 9))
    go_wp2_with fail
    (with_reducible refine (sameS_any A2 _ n2 c2 1 1 ws [l] _ q2' hx (by omega) (by omega)).mono ?_)
    rintro e w3 ⟨rfl, hb3⟩
    go_wp2_with fail
    go_ret
    exact ⟨by rw [HB.out]; rfl, bel_step (bel_alloc B2 _) hb3⟩
  | false =>
    rw [hl] at HL
    rw [hl, Bool.false_and] at HB
    clear hl
    go_enter Tryz.func62, Tryz.ntmps62
    go_wp2_with fail
    (with_reducible refine (HL.out).mono ?_)
    rintro e w1 ⟨rfl, B1⟩
    go_wp2_with fail
    go_ret
    exact ⟨by rw [HB.out]; rfl, B1⟩
end Go.Proofs.YtjjlmkleidbmhaaGreatDoor
end
section
namespace Go.Proofs.YtjjlmkleidbmhaaGreatDoor
open Go.RowKit Go.Nst
set_option maxRecDepth 100000
set_option linter.unusedVariables false
set_option linter.unusedSimpArgs false

def numQ (o n : Int) : Bool := if o = 6 then decide (1 ≤ n ∧ n ≤ 1048576) else if o = 7 then decide (0 ≤ n ∧ n ≤ 1048576) else if o = 13 ∨ o = 14 then mayM n else if o = 15 then decide (1 ≤ n ∧ n ≤ 36500) else decide (n = 0)
def txtQ (o : Int) (s : List UInt8) : Bool := if o = 8 then tagB s else if o = 11 ∨ o = 12 then wordB s else decide (s = [])
def kidQ (o : Int) (k : Nat) : Bool := if o = 3 ∨ o = 4 then decide (2 ≤ k ∧ k ≤ 16) else if o = 5 then decide (k = 1) else decide (k = 0)
def oneQ (o n : Int) (s : List UInt8) (k : Nat) : Bool := decide (1 ≤ o ∧ o ≤ 15) && numQ o n && txtQ o s && kidQ o k
theorem retb {a b : Bool} (h : a = b) : Ending.returned (.bool a) = .returned (.bool b) := by rw [h]
set_option maxHeartbeats 2000000 in
theorem number25_any (o n : Int) (s : List UInt8) (A : Option Addr) (k c : Nat) (w : World) : Calls Tryz.prog 51 #[.agg (qV o n s A k c)] w fun e w' => e = .returned (.bool (numQ o n)) ∧ Below w.heap.size w w' := by
  have B0 := bel_alloc (Below.refl w.heap.size w) (.cells (qV o n s A k c) 25)
  have HN := Lib.hid (of_no n)
  have HY := Lib.hid (of_yes n)
  unfold qV at *
  by_cases h6 : o = 6
  · subst h6
    go_enter Tryz.func51, Tryz.ntmps51
    go_wp2_with fail
    all_goals
      go_ret
      exact ⟨retb (by rw [Bool.eq_iff_iff]; simp [numQ]; omega), B0⟩
  have b6 : (o == 6) = false := by simpa using h6
  by_cases h7 : o = 7
  · subst h7
    go_enter Tryz.func51, Tryz.ntmps51
    go_wp2_with fail
    all_goals
      go_ret
      exact ⟨retb (by rw [Bool.eq_iff_iff]; simp [numQ]; omega), B0⟩
  have b7 : (o == 7) = false := by simpa using h7
  by_cases h13 : o = 13 ∨ o = 14
  · have hq : numQ o n = mayM n := by unfold numQ; rw [if_neg h6, if_neg h7, if_pos h13]
    rw [hq]
    have HQ := Lib.hid hq
    clear hq
    cases hm : mayM n with
    | false =>
      have HC := fun w => HN.out w hm
      simp only [Dt.val, Dt.cells, Dt.zero] at HC
      have H := Lib.hid HC
      clear HC hm
      rcases h13 with rfl | rfl
      all_goals
        go_enter Tryz.func51, Tryz.ntmps51
        go_wp2_with fail
        (with_reducible refine (H.out _).mono ?_)
        rintro e w1 ⟨rfl, hb1⟩
        go_wp2_with fail
        go_ret
        exact ⟨rfl, bel_alloc (bel_step B0 hb1) _⟩
    | true =>
      have HC := fun w => HY.out w hm
      generalize ofD n = dd at *
      obtain ⟨dy, dm, dk, dh, di, ds⟩ := dd
      simp only [Dt.val, Dt.cells] at HC
      have H := Lib.hid HC
      clear HC hm
      rcases h13 with rfl | rfl
      all_goals
        go_enter Tryz.func51, Tryz.ntmps51
        go_wp2_with fail
        (with_reducible refine (H.out _).mono ?_)
        rintro e w1 ⟨rfl, hb1⟩
        go_wp2_with fail
        go_ret
        exact ⟨rfl, bel_alloc (bel_step B0 hb1) _⟩
  have b13 : (o == 13) = false := by simp; omega
  have b14 : (o == 14) = false := by simp; omega
  by_cases h15 : o = 15
  · subst h15
    go_enter Tryz.func51, Tryz.ntmps51
    go_wp2_with fail
    all_goals
      go_ret
      exact ⟨retb (by rw [Bool.eq_iff_iff]; simp [numQ]; omega), B0⟩
  have b15 : (o == 15) = false := by simpa using h15
  have hq : numQ o n = decide (n = 0) := by unfold numQ; rw [if_neg h6, if_neg h7, if_neg h13, if_neg h15]
  have HQ := Lib.hid hq
  clear hq
  go_enter Tryz.func51, Tryz.ntmps51
  go_wp2_with fail
  go_ret
  exact ⟨by rw [HQ.out]; rfl, B0⟩
set_option maxHeartbeats 2000000 in
theorem text25_any (o n : Int) (s : List UInt8) (A : Option Addr) (k c : Nat) (w : World) (hs : s.length ≤ 20000) : Calls Tryz.prog 52 #[.agg (qV o n s A k c)] w fun e w' => e = .returned (.bool (txtQ o s)) ∧ Below w.heap.size w w' := by
  have B0 := bel_alloc (Below.refl w.heap.size w) (.cells (qV o n s A k c) 25)
  have HT := Lib.hid (fun W => tag_any s W hs)
  have HW := Lib.hid (fun W => isWord_any s W (by omega))
  unfold qV at *
  by_cases h8 : o = 8
  · subst h8
    have hq : txtQ 8 s = tagB s := rfl
    have HQ := Lib.hid hq
    clear hq
    go_enter Tryz.func52, Tryz.ntmps52
    go_wp2_with fail
    (with_reducible refine (HT.out _).mono ?_)
    rintro e w1 ⟨rfl, hb1⟩
    go_wp2_with fail
    go_ret
    exact ⟨by rw [HQ.out]; rfl, bel_step B0 hb1⟩
  have b8 : (o == 8) = false := by simpa using h8
  by_cases h11 : o = 11 ∨ o = 12
  · have hq : txtQ o s = wordB s := by unfold txtQ; rw [if_neg h8, if_pos h11]
    have HQ := Lib.hid hq
    clear hq h8 b8
    rcases h11 with rfl | rfl
    all_goals
      go_enter Tryz.func52, Tryz.ntmps52
      go_wp2_with fail
      (with_reducible refine (HW.out _).mono ?_)
      rintro e w1 ⟨rfl, hb1⟩
      go_wp2_with fail
      go_ret
      exact ⟨by rw [HQ.out]; rfl, bel_step B0 hb1⟩
  have b11 : (o == 11) = false := by simp; omega
  have b12 : (o == 12) = false := by simp; omega
  have hq : txtQ o s = decide (s = []) := by unfold txtQ; rw [if_neg h8, if_neg h11]
  have HQ := Lib.hid hq
  clear hq
  by_cases hs : s = []
  · subst hs
    go_enter Tryz.func52, Tryz.ntmps52
    go_wp2_with fail
    go_ret
    exact ⟨by rw [HQ.out]; rfl, B0⟩
  · have hs2 : s.isEmpty = false := by simpa using hs
    go_enter Tryz.func52, Tryz.ntmps52
    go_wp2_with fail
    go_ret
    exact ⟨by rw [HQ.out, decide_eq_false hs]; rfl, B0⟩
set_option maxHeartbeats 2000000 in
theorem kids25_any (o n : Int) (s : List UInt8) (A : Option Addr) (k c : Nat) (w : World) : Calls Tryz.prog 53 #[.agg (qV o n s A k c)] w fun e w' => e = .returned (.bool (kidQ o k)) ∧ Below w.heap.size w w' := by
  have B0 := bel_alloc (Below.refl w.heap.size w) (.cells (qV o n s A k c) 25)
  unfold qV at *
  by_cases h3 : o = 3 ∨ o = 4
  · rcases h3 with rfl | rfl
    all_goals
      go_enter Tryz.func53, Tryz.ntmps53
      go_wp2_with fail
      all_goals
        go_ret
        exact ⟨retb (by rw [Bool.eq_iff_iff]; simp [kidQ]; omega), B0⟩
  have b3 : (o == 3) = false := by simp; omega
  have b4 : (o == 4) = false := by simp; omega
  by_cases h5 : o = 5
  · subst h5
    go_enter Tryz.func53, Tryz.ntmps53
    go_wp2_with fail
    all_goals
      go_ret
      exact ⟨retb (by rw [Bool.eq_iff_iff]; simp [kidQ]; omega), B0⟩
  have b5 : (o == 5) = false := by simpa using h5
  have hq : kidQ o k = decide (k = 0) := by unfold kidQ; rw [if_neg h3, if_neg h5]
  have HQ := Lib.hid hq
  clear hq
  go_enter Tryz.func53, Tryz.ntmps53
  go_wp2_with fail
  go_ret
  exact ⟨retb (by rw [HQ.out, Bool.eq_iff_iff]; simp), B0⟩
end Go.Proofs.YtjjlmkleidbmhaaGreatDoor
end
section
namespace Go.Proofs.YtjjlmkleidbmhaaGreatDoor
open Go.RowKit Go.Nst
set_option maxRecDepth 100000
set_option linter.unusedVariables false
set_option linter.unusedSimpArgs false

theorem word25_any (l : List UInt8) (w : World) (hS : l.length ≤ 20000) : Calls Tryz.prog 63 #[.string ⟨l.toArray⟩] w fun e w' => e = .returned (.bool (wordB l)) ∧ Below w.heap.size w w' := by
  have HB : Hid (wordB l = (wordsL l == [l])) := rfl
  have HW := Lib.hid (fun W => refWords_any l W (by omega))
  have hwl := wordsL_len l
  generalize wordsL l = ws at *
  go_enter Tryz.func63, Tryz.ntmps63
  go_wp2_with fail
  (with_reducible refine (HW.out _).mono ?_)
  rintro e w2 ⟨A2, n2, c2, rfl, ho2, B2⟩
  have q2 := ho2.ss
  have hn2 := q2.len
  clear ho2
  have hx := Ss.const w2 [l] #[.string ⟨l.toArray⟩] 9 (0, 0) 1 rfl rfl
  have q2' := q2.below (bel_alloc (Below.refl _ _) (.cells #[.string ⟨l.toArray⟩] 9))
  go_wp2_with fail
  (with_reducible refine (sameS_any A2 _ n2 c2 1 1 ws [l] _ q2' hx (by omega) (by omega)).mono ?_)
  rintro e w3 ⟨rfl, hb3⟩
  go_wp2_with fail
  go_ret
  exact ⟨by rw [HB.out]; rfl, bel_step (bel_alloc B2 _) hb3⟩
set_option maxHeartbeats 2000000 in
theorem plain25_1 (n : Int) (s : List UInt8) (A : Option Addr) (k c : Nat) (w : World) (hs : s.length ≤ 20000) : Calls Tryz.prog 44 #[.agg (qV 1 n s A k c)] w fun e w' => e = .returned (.bool (oneQ 1 n s k)) ∧ Below w.heap.size w w' := by
  have B0 := bel_alloc (Below.refl w.heap.size w) (.cells (qV 1 n s A k c) 25)
  unfold qV at *
  by_cases hn : n = 0
  · subst hn
    by_cases h0 : s = []
    · subst h0
      go_enter Tryz.func44, Tryz.ntmps44
      go_wp2_with fail
      all_goals
        go_ret
        exact ⟨retb (by rw [Bool.eq_iff_iff]; simp [oneQ, numQ, txtQ, kidQ]; try omega), bel_alloc (Below.refl _ _) _⟩
    · have hs2 : s.isEmpty = false := by simpa using h0
      have hq : oneQ 1 0 s k = false := by simp [oneQ, txtQ, h0]
      have HQ := Lib.hid hq
      clear hq
      go_enter Tryz.func44, Tryz.ntmps44
      go_wp2_with fail
      all_goals
        go_ret
        exact ⟨by rw [HQ.out]; rfl, bel_alloc (Below.refl _ _) _⟩
  · have hn2 : (n == 0) = false := by simpa using hn
    have HNN := Lib.hid hn
    clear hn
    by_cases h0 : s = []
    · subst h0
      go_enter Tryz.func44, Tryz.ntmps44
      go_wp2_with fail
      all_goals
        go_ret
        exact ⟨retb (by rw [Bool.eq_iff_iff]; simp [oneQ, numQ, txtQ, kidQ, HNN.out]; try omega), bel_alloc (Below.refl _ _) _⟩
    · have hs2 : s.isEmpty = false := by simpa using h0
      have hq : oneQ 1 n s k = false := by simp [oneQ, txtQ, h0]
      have HQ := Lib.hid hq
      clear hq
      go_enter Tryz.func44, Tryz.ntmps44
      go_wp2_with fail
      all_goals
        go_ret
        exact ⟨by rw [HQ.out]; rfl, bel_alloc (Below.refl _ _) _⟩
set_option maxHeartbeats 2000000 in
theorem plain25_2 (n : Int) (s : List UInt8) (A : Option Addr) (k c : Nat) (w : World) (hs : s.length ≤ 20000) : Calls Tryz.prog 44 #[.agg (qV 2 n s A k c)] w fun e w' => e = .returned (.bool (oneQ 2 n s k)) ∧ Below w.heap.size w w' := by
  have B0 := bel_alloc (Below.refl w.heap.size w) (.cells (qV 2 n s A k c) 25)
  unfold qV at *
  by_cases hn : n = 0
  · subst hn
    by_cases h0 : s = []
    · subst h0
      go_enter Tryz.func44, Tryz.ntmps44
      go_wp2_with fail
      all_goals
        go_ret
        exact ⟨retb (by rw [Bool.eq_iff_iff]; simp [oneQ, numQ, txtQ, kidQ]; try omega), bel_alloc (Below.refl _ _) _⟩
    · have hs2 : s.isEmpty = false := by simpa using h0
      have hq : oneQ 2 0 s k = false := by simp [oneQ, txtQ, h0]
      have HQ := Lib.hid hq
      clear hq
      go_enter Tryz.func44, Tryz.ntmps44
      go_wp2_with fail
      all_goals
        go_ret
        exact ⟨by rw [HQ.out]; rfl, bel_alloc (Below.refl _ _) _⟩
  · have hn2 : (n == 0) = false := by simpa using hn
    have HNN := Lib.hid hn
    clear hn
    by_cases h0 : s = []
    · subst h0
      go_enter Tryz.func44, Tryz.ntmps44
      go_wp2_with fail
      all_goals
        go_ret
        exact ⟨retb (by rw [Bool.eq_iff_iff]; simp [oneQ, numQ, txtQ, kidQ, HNN.out]; try omega), bel_alloc (Below.refl _ _) _⟩
    · have hs2 : s.isEmpty = false := by simpa using h0
      have hq : oneQ 2 n s k = false := by simp [oneQ, txtQ, h0]
      have HQ := Lib.hid hq
      clear hq
      go_enter Tryz.func44, Tryz.ntmps44
      go_wp2_with fail
      all_goals
        go_ret
        exact ⟨by rw [HQ.out]; rfl, bel_alloc (Below.refl _ _) _⟩
set_option maxHeartbeats 2000000 in
theorem plain25_3 (n : Int) (s : List UInt8) (A : Option Addr) (k c : Nat) (w : World) (hs : s.length ≤ 20000) : Calls Tryz.prog 44 #[.agg (qV 3 n s A k c)] w fun e w' => e = .returned (.bool (oneQ 3 n s k)) ∧ Below w.heap.size w w' := by
  have B0 := bel_alloc (Below.refl w.heap.size w) (.cells (qV 3 n s A k c) 25)
  unfold qV at *
  by_cases hn : n = 0
  · subst hn
    by_cases h0 : s = []
    · subst h0
      go_enter Tryz.func44, Tryz.ntmps44
      go_wp2_with fail
      all_goals
        go_ret
        exact ⟨retb (by rw [Bool.eq_iff_iff]; simp [oneQ, numQ, txtQ, kidQ]; try omega), bel_alloc (Below.refl _ _) _⟩
    · have hs2 : s.isEmpty = false := by simpa using h0
      have hq : oneQ 3 0 s k = false := by simp [oneQ, txtQ, h0]
      have HQ := Lib.hid hq
      clear hq
      go_enter Tryz.func44, Tryz.ntmps44
      go_wp2_with fail
      all_goals
        go_ret
        exact ⟨by rw [HQ.out]; rfl, bel_alloc (Below.refl _ _) _⟩
  · have hn2 : (n == 0) = false := by simpa using hn
    have HNN := Lib.hid hn
    clear hn
    by_cases h0 : s = []
    · subst h0
      go_enter Tryz.func44, Tryz.ntmps44
      go_wp2_with fail
      all_goals
        go_ret
        exact ⟨retb (by rw [Bool.eq_iff_iff]; simp [oneQ, numQ, txtQ, kidQ, HNN.out]; try omega), bel_alloc (Below.refl _ _) _⟩
    · have hs2 : s.isEmpty = false := by simpa using h0
      have hq : oneQ 3 n s k = false := by simp [oneQ, txtQ, h0]
      have HQ := Lib.hid hq
      clear hq
      go_enter Tryz.func44, Tryz.ntmps44
      go_wp2_with fail
      all_goals
        go_ret
        exact ⟨by rw [HQ.out]; rfl, bel_alloc (Below.refl _ _) _⟩
set_option maxHeartbeats 2000000 in
theorem plain25_4 (n : Int) (s : List UInt8) (A : Option Addr) (k c : Nat) (w : World) (hs : s.length ≤ 20000) : Calls Tryz.prog 44 #[.agg (qV 4 n s A k c)] w fun e w' => e = .returned (.bool (oneQ 4 n s k)) ∧ Below w.heap.size w w' := by
  have B0 := bel_alloc (Below.refl w.heap.size w) (.cells (qV 4 n s A k c) 25)
  unfold qV at *
  by_cases hn : n = 0
  · subst hn
    by_cases h0 : s = []
    · subst h0
      go_enter Tryz.func44, Tryz.ntmps44
      go_wp2_with fail
      all_goals
        go_ret
        exact ⟨retb (by rw [Bool.eq_iff_iff]; simp [oneQ, numQ, txtQ, kidQ]; try omega), bel_alloc (Below.refl _ _) _⟩
    · have hs2 : s.isEmpty = false := by simpa using h0
      have hq : oneQ 4 0 s k = false := by simp [oneQ, txtQ, h0]
      have HQ := Lib.hid hq
      clear hq
      go_enter Tryz.func44, Tryz.ntmps44
      go_wp2_with fail
      all_goals
        go_ret
        exact ⟨by rw [HQ.out]; rfl, bel_alloc (Below.refl _ _) _⟩
  · have hn2 : (n == 0) = false := by simpa using hn
    have HNN := Lib.hid hn
    clear hn
    by_cases h0 : s = []
    · subst h0
      go_enter Tryz.func44, Tryz.ntmps44
      go_wp2_with fail
      all_goals
        go_ret
        exact ⟨retb (by rw [Bool.eq_iff_iff]; simp [oneQ, numQ, txtQ, kidQ, HNN.out]; try omega), bel_alloc (Below.refl _ _) _⟩
    · have hs2 : s.isEmpty = false := by simpa using h0
      have hq : oneQ 4 n s k = false := by simp [oneQ, txtQ, h0]
      have HQ := Lib.hid hq
      clear hq
      go_enter Tryz.func44, Tryz.ntmps44
      go_wp2_with fail
      all_goals
        go_ret
        exact ⟨by rw [HQ.out]; rfl, bel_alloc (Below.refl _ _) _⟩
set_option maxHeartbeats 2000000 in
theorem plain25_5 (n : Int) (s : List UInt8) (A : Option Addr) (k c : Nat) (w : World) (hs : s.length ≤ 20000) : Calls Tryz.prog 44 #[.agg (qV 5 n s A k c)] w fun e w' => e = .returned (.bool (oneQ 5 n s k)) ∧ Below w.heap.size w w' := by
  have B0 := bel_alloc (Below.refl w.heap.size w) (.cells (qV 5 n s A k c) 25)
  unfold qV at *
  by_cases hn : n = 0
  · subst hn
    by_cases h0 : s = []
    · subst h0
      go_enter Tryz.func44, Tryz.ntmps44
      go_wp2_with fail
      all_goals
        go_ret
        exact ⟨retb (by rw [Bool.eq_iff_iff]; simp [oneQ, numQ, txtQ, kidQ]; try omega), bel_alloc (Below.refl _ _) _⟩
    · have hs2 : s.isEmpty = false := by simpa using h0
      have hq : oneQ 5 0 s k = false := by simp [oneQ, txtQ, h0]
      have HQ := Lib.hid hq
      clear hq
      go_enter Tryz.func44, Tryz.ntmps44
      go_wp2_with fail
      all_goals
        go_ret
        exact ⟨by rw [HQ.out]; rfl, bel_alloc (Below.refl _ _) _⟩
  · have hn2 : (n == 0) = false := by simpa using hn
    have HNN := Lib.hid hn
    clear hn
    by_cases h0 : s = []
    · subst h0
      go_enter Tryz.func44, Tryz.ntmps44
      go_wp2_with fail
      all_goals
        go_ret
        exact ⟨retb (by rw [Bool.eq_iff_iff]; simp [oneQ, numQ, txtQ, kidQ, HNN.out]; try omega), bel_alloc (Below.refl _ _) _⟩
    · have hs2 : s.isEmpty = false := by simpa using h0
      have hq : oneQ 5 n s k = false := by simp [oneQ, txtQ, h0]
      have HQ := Lib.hid hq
      clear hq
      go_enter Tryz.func44, Tryz.ntmps44
      go_wp2_with fail
      all_goals
        go_ret
        exact ⟨by rw [HQ.out]; rfl, bel_alloc (Below.refl _ _) _⟩
end Go.Proofs.YtjjlmkleidbmhaaGreatDoor
end
section
namespace Go.Proofs.YtjjlmkleidbmhaaGreatDoor
open Go.RowKit Go.Nst
set_option maxRecDepth 100000
set_option linter.unusedVariables false
set_option linter.unusedSimpArgs false

set_option maxHeartbeats 2000000 in
theorem plain25_6 (n : Int) (s : List UInt8) (A : Option Addr) (k c : Nat) (w : World) (hs : s.length ≤ 20000) : Calls Tryz.prog 44 #[.agg (qV 6 n s A k c)] w fun e w' => e = .returned (.bool (oneQ 6 n s k)) ∧ Below w.heap.size w w' := by
  have B0 := bel_alloc (Below.refl w.heap.size w) (.cells (qV 6 n s A k c) 25)
  unfold qV at *
  by_cases h0 : s = []
  · subst h0
    go_enter Tryz.func44, Tryz.ntmps44
    go_wp2_with fail
    all_goals
      go_ret
      exact ⟨retb (by rw [Bool.eq_iff_iff]; simp [oneQ, numQ, txtQ, kidQ]; try omega), bel_alloc (Below.refl _ _) _⟩
  · have hs2 : s.isEmpty = false := by simpa using h0
    have hq : oneQ 6 n s k = false := by simp [oneQ, txtQ, h0]
    have HQ := Lib.hid hq
    clear hq
    go_enter Tryz.func44, Tryz.ntmps44
    go_wp2_with fail
    all_goals
      go_ret
      exact ⟨by rw [HQ.out]; rfl, bel_alloc (Below.refl _ _) _⟩
set_option maxHeartbeats 2000000 in
theorem plain25_7 (n : Int) (s : List UInt8) (A : Option Addr) (k c : Nat) (w : World) (hs : s.length ≤ 20000) : Calls Tryz.prog 44 #[.agg (qV 7 n s A k c)] w fun e w' => e = .returned (.bool (oneQ 7 n s k)) ∧ Below w.heap.size w w' := by
  have B0 := bel_alloc (Below.refl w.heap.size w) (.cells (qV 7 n s A k c) 25)
  unfold qV at *
  by_cases hn : n = 0
  · subst hn
    by_cases h0 : s = []
    · subst h0
      go_enter Tryz.func44, Tryz.ntmps44
      go_wp2_with fail
      all_goals
        go_ret
        exact ⟨retb (by rw [Bool.eq_iff_iff]; simp [oneQ, numQ, txtQ, kidQ]; try omega), bel_alloc (Below.refl _ _) _⟩
    · have hs2 : s.isEmpty = false := by simpa using h0
      have hq : oneQ 7 0 s k = false := by simp [oneQ, txtQ, h0]
      have HQ := Lib.hid hq
      clear hq
      go_enter Tryz.func44, Tryz.ntmps44
      go_wp2_with fail
      all_goals
        go_ret
        exact ⟨by rw [HQ.out]; rfl, bel_alloc (Below.refl _ _) _⟩
  · have hn2 : (n == 0) = false := by simpa using hn
    have HNN := Lib.hid hn
    clear hn
    by_cases h0 : s = []
    · subst h0
      go_enter Tryz.func44, Tryz.ntmps44
      go_wp2_with fail
      all_goals
        go_ret
        exact ⟨retb (by rw [Bool.eq_iff_iff]; simp [oneQ, numQ, txtQ, kidQ]; have HN0 := HNN.out; try omega), bel_alloc (Below.refl _ _) _⟩
    · have hs2 : s.isEmpty = false := by simpa using h0
      have hq : oneQ 7 n s k = false := by simp [oneQ, txtQ, h0]
      have HQ := Lib.hid hq
      clear hq
      go_enter Tryz.func44, Tryz.ntmps44
      go_wp2_with fail
      all_goals
        go_ret
        exact ⟨by rw [HQ.out]; rfl, bel_alloc (Below.refl _ _) _⟩
set_option maxHeartbeats 2000000 in
theorem plain25_8 (n : Int) (s : List UInt8) (A : Option Addr) (k c : Nat) (w : World) (hs : s.length ≤ 20000) : Calls Tryz.prog 44 #[.agg (qV 8 n s A k c)] w fun e w' => e = .returned (.bool (oneQ 8 n s k)) ∧ Below w.heap.size w w' := by
  have B0 := bel_alloc (Below.refl w.heap.size w) (.cells (qV 8 n s A k c) 25)
  unfold qV at *
  have HC := Lib.hid (fun W => refTag_any s W hs)
  by_cases hn : n = 0
  · subst hn
    have hq : oneQ 8 0 s k = (tagB s && decide (k = 0)) := by simp [oneQ, numQ, txtQ, kidQ]
    have HQ := Lib.hid hq
    clear hq
    generalize tagB s = tb at *
    cases tb with
    | false =>
      go_enter Tryz.func44, Tryz.ntmps44
      go_wp2_with fail
      (with_reducible refine (HC.out _).mono ?_)
      rintro e w1 ⟨rfl, hb1⟩
      go_wp2_with fail
      go_ret
      exact ⟨by rw [HQ.out]; rfl, bel_step (bel_alloc (Below.refl _ _) _) hb1⟩
    | true =>
      have HX := Lib.hid (Blk.new w 25 (qV 8 0 s A k c))
      simp only [qV] at HX
      go_enter Tryz.func44, Tryz.ntmps44
      go_wp2_with fail
      (with_reducible refine (HC.out _).mono ?_)
      rintro e w1 ⟨rfl, hb1⟩
      obtain ⟨-, -, x2, x3⟩ := box_facts (HX.out.below hb1 HX.out.lt)
      go_wp2_with fail
      go_ret
      exact ⟨retb (by rw [HQ.out, Bool.eq_iff_iff]; simp; try omega), bel_step (bel_alloc (Below.refl _ _) _) hb1⟩
  · have hn2 : (n == 0) = false := by simpa using hn
    have hq : oneQ 8 n s k = false := by simp [oneQ, numQ, hn]
    have HQ := Lib.hid hq
    clear hq hn
    by_cases h0 : s = []
    · subst h0
      go_enter Tryz.func44, Tryz.ntmps44
      go_wp2_with fail
      all_goals
        go_ret
        exact ⟨by rw [HQ.out]; rfl, bel_alloc (Below.refl _ _) _⟩
    · have hs2 : s.isEmpty = false := by simpa using h0
      go_enter Tryz.func44, Tryz.ntmps44
      go_wp2_with fail
      all_goals
        go_ret
        exact ⟨by rw [HQ.out]; rfl, bel_alloc (Below.refl _ _) _⟩
set_option maxHeartbeats 2000000 in
theorem plain25_9 (n : Int) (s : List UInt8) (A : Option Addr) (k c : Nat) (w : World) (hs : s.length ≤ 20000) : Calls Tryz.prog 44 #[.agg (qV 9 n s A k c)] w fun e w' => e = .returned (.bool (oneQ 9 n s k)) ∧ Below w.heap.size w w' := by
  have B0 := bel_alloc (Below.refl w.heap.size w) (.cells (qV 9 n s A k c) 25)
  unfold qV at *
  by_cases hn : n = 0
  · subst hn
    by_cases h0 : s = []
    · subst h0
      go_enter Tryz.func44, Tryz.ntmps44
      go_wp2_with fail
      all_goals
        go_ret
        exact ⟨retb (by rw [Bool.eq_iff_iff]; simp [oneQ, numQ, txtQ, kidQ]; try omega), bel_alloc (Below.refl _ _) _⟩
    · have hs2 : s.isEmpty = false := by simpa using h0
      have hq : oneQ 9 0 s k = false := by simp [oneQ, txtQ, h0]
      have HQ := Lib.hid hq
      clear hq
      go_enter Tryz.func44, Tryz.ntmps44
      go_wp2_with fail
      all_goals
        go_ret
        exact ⟨by rw [HQ.out]; rfl, bel_alloc (Below.refl _ _) _⟩
  · have hn2 : (n == 0) = false := by simpa using hn
    have HNN := Lib.hid hn
    clear hn
    by_cases h0 : s = []
    · subst h0
      go_enter Tryz.func44, Tryz.ntmps44
      go_wp2_with fail
      all_goals
        go_ret
        exact ⟨retb (by rw [Bool.eq_iff_iff]; simp [oneQ, numQ, txtQ, kidQ, HNN.out]; try omega), bel_alloc (Below.refl _ _) _⟩
    · have hs2 : s.isEmpty = false := by simpa using h0
      have hq : oneQ 9 n s k = false := by simp [oneQ, txtQ, h0]
      have HQ := Lib.hid hq
      clear hq
      go_enter Tryz.func44, Tryz.ntmps44
      go_wp2_with fail
      all_goals
        go_ret
        exact ⟨by rw [HQ.out]; rfl, bel_alloc (Below.refl _ _) _⟩
set_option maxHeartbeats 2000000 in
theorem plain25_10 (n : Int) (s : List UInt8) (A : Option Addr) (k c : Nat) (w : World) (hs : s.length ≤ 20000) : Calls Tryz.prog 44 #[.agg (qV 10 n s A k c)] w fun e w' => e = .returned (.bool (oneQ 10 n s k)) ∧ Below w.heap.size w w' := by
  have B0 := bel_alloc (Below.refl w.heap.size w) (.cells (qV 10 n s A k c) 25)
  unfold qV at *
  by_cases hn : n = 0
  · subst hn
    by_cases h0 : s = []
    · subst h0
      go_enter Tryz.func44, Tryz.ntmps44
      go_wp2_with fail
      all_goals
        go_ret
        exact ⟨retb (by rw [Bool.eq_iff_iff]; simp [oneQ, numQ, txtQ, kidQ]; try omega), bel_alloc (Below.refl _ _) _⟩
    · have hs2 : s.isEmpty = false := by simpa using h0
      have hq : oneQ 10 0 s k = false := by simp [oneQ, txtQ, h0]
      have HQ := Lib.hid hq
      clear hq
      go_enter Tryz.func44, Tryz.ntmps44
      go_wp2_with fail
      all_goals
        go_ret
        exact ⟨by rw [HQ.out]; rfl, bel_alloc (Below.refl _ _) _⟩
  · have hn2 : (n == 0) = false := by simpa using hn
    have HNN := Lib.hid hn
    clear hn
    by_cases h0 : s = []
    · subst h0
      go_enter Tryz.func44, Tryz.ntmps44
      go_wp2_with fail
      all_goals
        go_ret
        exact ⟨retb (by rw [Bool.eq_iff_iff]; simp [oneQ, numQ, txtQ, kidQ, HNN.out]; try omega), bel_alloc (Below.refl _ _) _⟩
    · have hs2 : s.isEmpty = false := by simpa using h0
      have hq : oneQ 10 n s k = false := by simp [oneQ, txtQ, h0]
      have HQ := Lib.hid hq
      clear hq
      go_enter Tryz.func44, Tryz.ntmps44
      go_wp2_with fail
      all_goals
        go_ret
        exact ⟨by rw [HQ.out]; rfl, bel_alloc (Below.refl _ _) _⟩
set_option maxHeartbeats 2000000 in
theorem plain25_11 (n : Int) (s : List UInt8) (A : Option Addr) (k c : Nat) (w : World) (hs : s.length ≤ 20000) : Calls Tryz.prog 44 #[.agg (qV 11 n s A k c)] w fun e w' => e = .returned (.bool (oneQ 11 n s k)) ∧ Below w.heap.size w w' := by
  have B0 := bel_alloc (Below.refl w.heap.size w) (.cells (qV 11 n s A k c) 25)
  unfold qV at *
  have HC := Lib.hid (fun W => word25_any s W hs)
  by_cases hn : n = 0
  · subst hn
    have hq : oneQ 11 0 s k = (wordB s && decide (k = 0)) := by simp [oneQ, numQ, txtQ, kidQ]
    have HQ := Lib.hid hq
    clear hq
    generalize wordB s = tb at *
    cases tb with
    | false =>
      go_enter Tryz.func44, Tryz.ntmps44
      go_wp2_with fail
      (with_reducible refine (HC.out _).mono ?_)
      rintro e w1 ⟨rfl, hb1⟩
      go_wp2_with fail
      go_ret
      exact ⟨by rw [HQ.out]; rfl, bel_step (bel_alloc (Below.refl _ _) _) hb1⟩
    | true =>
      have HX := Lib.hid (Blk.new w 25 (qV 11 0 s A k c))
      simp only [qV] at HX
      go_enter Tryz.func44, Tryz.ntmps44
      go_wp2_with fail
      (with_reducible refine (HC.out _).mono ?_)
      rintro e w1 ⟨rfl, hb1⟩
      obtain ⟨-, -, x2, x3⟩ := box_facts (HX.out.below hb1 HX.out.lt)
      go_wp2_with fail
      go_ret
      exact ⟨retb (by rw [HQ.out, Bool.eq_iff_iff]; simp; try omega), bel_step (bel_alloc (Below.refl _ _) _) hb1⟩
  · have hn2 : (n == 0) = false := by simpa using hn
    have hq : oneQ 11 n s k = false := by simp [oneQ, numQ, hn]
    have HQ := Lib.hid hq
    clear hq hn
    by_cases h0 : s = []
    · subst h0
      go_enter Tryz.func44, Tryz.ntmps44
      go_wp2_with fail
      all_goals
        go_ret
        exact ⟨by rw [HQ.out]; rfl, bel_alloc (Below.refl _ _) _⟩
    · have hs2 : s.isEmpty = false := by simpa using h0
      go_enter Tryz.func44, Tryz.ntmps44
      go_wp2_with fail
      all_goals
        go_ret
        exact ⟨by rw [HQ.out]; rfl, bel_alloc (Below.refl _ _) _⟩
end Go.Proofs.YtjjlmkleidbmhaaGreatDoor
end
