/-
  The year of a day of 400 years: shown for each of their 146097 days by the kernel.
  The document's dates: leap, Days, ahead, day, zero, Moment, first, last, May; the code's within, Of.
-/
import Derived.WalkKit
import Derived.Test.YtjmmgekildlckaaGreatProg
import Derived.Test.YtjmmgekildlckaaGreatPla
import Derived.Test.YtjmmgekildlckaaGreatBas
import Derived.IntWalk
section
namespace Go.Nst
set_option linter.unusedVariables false

def allR (f : Nat → Bool) : Nat → Nat → Bool
  | 0, lo => f lo
  | k + 1, lo => and (allR f k lo) (allR f k (Nat.add lo (Nat.pow 2 k)))
theorem allR_at (f : Nat → Bool) : ∀ (k lo o : Nat), allR f k lo = true → lo ≤ o → o < lo + 2 ^ k → f o = true
  | 0, lo, o, h, h1, h2 => by
    obtain rfl : o = lo := by simp at h2; omega
    exact h
  | k + 1, lo, o, h, h1, h2 => by
    simp only [allR, Bool.and_eq_true] at h
    by_cases hm : o < lo + 2 ^ k
    · exact allR_at f k lo o h.1 h1 hm
    · exact allR_at f k (lo + 2 ^ k) o h.2 (by omega) (by rw [Nat.pow_succ] at h2; omega)
/-- is o a day of the year y of its 400 years? -/
def chkY (o y : Nat) : Bool := and (Nat.ble y 399) (and (Nat.ble (Nat.add (Nat.mul 365 y) (Nat.div y 4)) (Nat.add o (Nat.div y 100))) (Nat.blt (Nat.add o (Nat.div (Nat.succ y) 100)) (Nat.add (Nat.add (Nat.mul 365 (Nat.succ y)) (Nat.div (Nat.succ y) 4)) (Nat.div (Nat.succ y) 400))))
def chk (o : Nat) : Bool := or (Nat.ble 146097 o) (chkY o (Nat.div (Nat.sub (Nat.sub (Nat.add o (Nat.div o 36524)) (Nat.div o 1460)) (Nat.div o 146096)) 365))
theorem t18 : allR chk 18 0 = true := by decide +kernel
theorem of_tab (o : Int) (h0 : 0 ≤ o) (h1 : o ≤ 146096) (y : Int) (hy : y = (o - o / 1460 + o / 36524 - o / 146096) / 365) : 0 ≤ y ∧ y ≤ 399 ∧ 0 ≤ o - (365 * y + y / 4 - y / 100) ∧ o < 365 * (y + 1) + (y + 1) / 4 - (y + 1) / 100 + (y + 1) / 400 := by
  obtain ⟨a, rfl⟩ := Int.eq_ofNat_of_zero_le h0
  have h := allR_at chk 18 0 a t18 (by omega) (by omega)
  obtain ⟨b, hb⟩ : ∃ b : Nat, b = (a + a / 36524 - a / 1460 - a / 146096) / 365 := ⟨_, rfl⟩
  have hyb : y = (b : Int) := by rw [hy, hb]; omega
  have h' : (Nat.ble 146097 a || chkY a b) = true := by rw [hb]; exact h
  have hn : Nat.ble 146097 a = false := by
    cases hq : Nat.ble 146097 a with
    | false => rfl
    | true => have := Nat.le_of_ble_eq_true hq; omega
  rw [hn, Bool.false_or] at h'
  simp only [chkY, Bool.and_eq_true] at h'
  obtain ⟨k1, k2, k3⟩ := h'
  have k1 := Nat.le_of_ble_eq_true k1
  have k2 := Nat.le_of_ble_eq_true k2
  have k3 : a + (b + 1) / 100 < 365 * (b + 1) + (b + 1) / 4 + (b + 1) / 400 := Nat.le_of_ble_eq_true k3
  have k2 : 365 * b + b / 4 ≤ a + b / 100 := k2
  subst hyb
  obtain ⟨c, hc⟩ : ∃ c : Nat, c = b + 1 := ⟨_, rfl⟩
  rw [← hc] at k3
  rw [show (b : Int) + 1 = (c : Int) by omega]
  clear hb hy h hn
  refine ⟨by omega, by omega, by omega, by omega⟩
end Go.Nst
end
section
namespace Go.Proofs.YtjmmgekildlckaaGreat
open Go.RowKit Go.Nst
set_option maxRecDepth 100000
set_option linter.unusedVariables false
set_option linter.unusedSimpArgs false

theorem leap_cases (y : Int) : ((y % 4 == 0) = false ∧ (y % 400 == 0) = false ∧ leapB y = false) ∨ ((y % 4 == 0) = true ∧ (y % 100 != 0) = true ∧ (y % 100 == 0) = false ∧ leapB y = true) ∨ ((y % 4 == 0) = true ∧ (y % 100 != 0) = false ∧ (y % 100 == 0) = true ∧ (y % 400 == 0) = true ∧ leapB y = true) ∨ ((y % 4 == 0) = true ∧ (y % 100 != 0) = false ∧ (y % 100 == 0) = true ∧ (y % 400 == 0) = false ∧ leapB y = false) := by
  unfold leapB
  by_cases a : y % 4 = 0 <;> by_cases b : y % 100 = 0 <;> by_cases c : y % 400 = 0 <;> simp [a, b, c] <;> omega
set_option maxHeartbeats 1000000 in
theorem refLeap_any (y : Int) (w : World) (h0 : 0 ≤ y) (h1 : y ≤ 100000) : Calls Tryz.prog 100 #[.int .i64 y] w fun e w' => e = .returned (.bool (leapB y)) ∧ w = w' := by
  rcases leap_cases y with ⟨a, b, hl⟩ | ⟨a, b, b', hl⟩ | ⟨a, b, b', c, hl⟩ | ⟨a, b, b', c, hl⟩
  all_goals
    rw [hl]
    clear hl
    go_enter Tryz.func100, Tryz.ntmps100
    go_wp2_with fail
    go_ret
    exact ⟨rfl, rfl⟩
set_option maxHeartbeats 1000000 in
theorem leap4_any (y : Int) (w : World) (h0 : 0 ≤ y) (h1 : y ≤ 100000) : Calls Tryz.prog 106 #[.int .i64 y] w fun e w' => e = .returned (.bool (leapB y)) ∧ w = w' := by
  rcases leap_cases y with ⟨a, b, hl⟩ | ⟨a, b, b', hl⟩ | ⟨a, b, b', c, hl⟩ | ⟨a, b, b', c, hl⟩
  all_goals
    rw [hl]
    clear hl
    go_enter Tryz.func106, Tryz.ntmps106
    go_wp2_with fail
    go_ret
    exact ⟨rfl, rfl⟩
theorem daysM_out {y m : Int} (h : y < 1 ∨ 9999 < y ∨ m < 1 ∨ 12 < m) : daysM y m = 0 := by unfold daysM; rw [if_pos h]
theorem daysM_two {y : Int} (h0 : 1 ≤ y) (h1 : y ≤ 9999) : daysM y 2 = if leapB y then 29 else 28 := by rw [daysM_in h0 h1 (by omega) (by omega)]; rfl

set_option maxHeartbeats 4000000 in
theorem refDays_any (y m : Int) (w : World) : Calls Tryz.prog 83 #[.int .i64 y, .int .i64 m] w fun e w' => e = .returned (.int .i64 (daysM y m)) ∧ w = w' := by
  by_cases h1 : y < 1
  · rw [daysM_out (.inl h1)]
    have d1 : decide (y < 1) = true := by simp; omega
    go_enter Tryz.func83, Tryz.ntmps83
    go_wp2_with fail
    go_ret
    exact ⟨rfl, rfl⟩
  have d1 : decide (y < 1) = false := by simp; omega
  by_cases h2 : 9999 < y
  · rw [daysM_out (.inr (.inl h2))]
    have d2 : decide (9999 < y) = true := by simp; omega
    go_enter Tryz.func83, Tryz.ntmps83
    go_wp2_with fail
    go_ret
    exact ⟨rfl, rfl⟩
  have d2 : decide (9999 < y) = false := by simp; omega
  by_cases m1 : m = 1
  · subst m1
    rw [show daysM y 1 = 31 from (daysM_in (by omega) (by omega) (by omega) (by omega)).trans rfl]
    go_enter Tryz.func83, Tryz.ntmps83
    go_wp2_with fail
    go_ret
    exact ⟨rfl, rfl⟩
  by_cases m2 : m = 2
  · subst m2
    rw [daysM_two (by omega) (by omega)]
    have HL := Lib.hid (refLeap_any y w (by omega) (by omega))
    cases hl : leapB y with
    | true =>
      rw [hl] at HL
      clear hl
      go_enter Tryz.func83, Tryz.ntmps83
      go_wp2_with fail
      (with_reducible refine (HL.out).mono ?_)
      rintro e w1 ⟨rfl, rfl⟩
      go_wp2_with fail
      go_ret
      exact ⟨rfl, rfl⟩
    | false =>
      rw [hl] at HL
      clear hl
      go_enter Tryz.func83, Tryz.ntmps83
      go_wp2_with fail
      (with_reducible refine (HL.out).mono ?_)
      rintro e w1 ⟨rfl, rfl⟩
      go_wp2_with fail
      go_ret
      exact ⟨rfl, rfl⟩
  by_cases m3 : m = 3
  · subst m3
    rw [show daysM y 3 = 31 from (daysM_in (by omega) (by omega) (by omega) (by omega)).trans rfl]
    go_enter Tryz.func83, Tryz.ntmps83
    go_wp2_with fail
    go_ret
    exact ⟨rfl, rfl⟩
  by_cases m4 : m = 4
  · subst m4
    rw [show daysM y 4 = 30 from (daysM_in (by omega) (by omega) (by omega) (by omega)).trans rfl]
    go_enter Tryz.func83, Tryz.ntmps83
    go_wp2_with fail
    go_ret
    exact ⟨rfl, rfl⟩
  by_cases m5 : m = 5
  · subst m5
    rw [show daysM y 5 = 31 from (daysM_in (by omega) (by omega) (by omega) (by omega)).trans rfl]
    go_enter Tryz.func83, Tryz.ntmps83
    go_wp2_with fail
    go_ret
    exact ⟨rfl, rfl⟩
  by_cases m6 : m = 6
  · subst m6
    rw [show daysM y 6 = 30 from (daysM_in (by omega) (by omega) (by omega) (by omega)).trans rfl]
    go_enter Tryz.func83, Tryz.ntmps83
    go_wp2_with fail
    go_ret
    exact ⟨rfl, rfl⟩
  by_cases m7 : m = 7
  · subst m7
    rw [show daysM y 7 = 31 from (daysM_in (by omega) (by omega) (by omega) (by omega)).trans rfl]
    go_enter Tryz.func83, Tryz.ntmps83
    go_wp2_with fail
    go_ret
    exact ⟨rfl, rfl⟩
  by_cases m8 : m = 8
  · subst m8
    rw [show daysM y 8 = 31 from (daysM_in (by omega) (by omega) (by omega) (by omega)).trans rfl]
    go_enter Tryz.func83, Tryz.ntmps83
    go_wp2_with fail
    go_ret
    exact ⟨rfl, rfl⟩
  by_cases m9 : m = 9
  · subst m9
    rw [show daysM y 9 = 30 from (daysM_in (by omega) (by omega) (by omega) (by omega)).trans rfl]
    go_enter Tryz.func83, Tryz.ntmps83
    go_wp2_with fail
    go_ret
    exact ⟨rfl, rfl⟩
  by_cases m10 : m = 10
  · subst m10
    rw [show daysM y 10 = 31 from (daysM_in (by omega) (by omega) (by omega) (by omega)).trans rfl]
    go_enter Tryz.func83, Tryz.ntmps83
    go_wp2_with fail
    go_ret
    exact ⟨rfl, rfl⟩
  by_cases m11 : m = 11
  · subst m11
    rw [show daysM y 11 = 30 from (daysM_in (by omega) (by omega) (by omega) (by omega)).trans rfl]
    go_enter Tryz.func83, Tryz.ntmps83
    go_wp2_with fail
    go_ret
    exact ⟨rfl, rfl⟩
  by_cases m12 : m = 12
  · subst m12
    rw [show daysM y 12 = 31 from (daysM_in (by omega) (by omega) (by omega) (by omega)).trans rfl]
    go_enter Tryz.func83, Tryz.ntmps83
    go_wp2_with fail
    go_ret
    exact ⟨rfl, rfl⟩
  have e1 : (m == 1) = false := by simp; omega
  have e2 : (m == 2) = false := by simp; omega
  have e3 : (m == 3) = false := by simp; omega
  have e4 : (m == 4) = false := by simp; omega
  have e5 : (m == 5) = false := by simp; omega
  have e6 : (m == 6) = false := by simp; omega
  have e7 : (m == 7) = false := by simp; omega
  have e8 : (m == 8) = false := by simp; omega
  have e9 : (m == 9) = false := by simp; omega
  have e10 : (m == 10) = false := by simp; omega
  have e11 : (m == 11) = false := by simp; omega
  have e12 : (m == 12) = false := by simp; omega
  rw [daysM_out (by omega)]
  clear m1 m2 m3 m4 m5 m6 m7 m8 m9 m10 m11 m12
  go_enter Tryz.func83, Tryz.ntmps83
  go_wp2_with fail
  go_ret
  exact ⟨rfl, rfl⟩

theorem ahead_any (y : Int) (w : World) (h0 : 1 ≤ y) (h1 : y ≤ 100000) : Calls Tryz.prog 101 #[.int .i64 y] w fun e w' => e = .returned (.int .i64 (aheadY y)) ∧ w = w' := by
  go_enter Tryz.func101, Tryz.ntmps101
  go_wp2_with fail
  go_ret
  exact ⟨rfl, rfl⟩
theorem aheadY_bd {y : Int} (h0 : 1 ≤ y) (h1 : y ≤ 100000) : 0 ≤ aheadY y ∧ aheadY y ≤ 40000000 := by unfold aheadY; omega
theorem daysM_bd (y m : Int) : 0 ≤ daysM y m ∧ daysM y m ≤ 31 := by unfold daysM; (repeat' split) <;> omega
theorem cumN_bd (y : Int) : ∀ k : Nat, 0 ≤ cumN y k ∧ cumN y k ≤ 31 * k
  | 0 => by simp [cumN]
  | k + 1 => by
    have := cumN_bd y k
    have := daysM_bd y k
    simp only [cumN]
    split <;> omega

set_option maxHeartbeats 1000000 in
theorem day_any (y : Int) (m : Nat) (d : Int) (w : World) (h0 : 1 ≤ y) (h1 : y ≤ 9999) (hm1 : 1 ≤ m) (hm2 : m ≤ 12) (hd0 : -100000 ≤ d) (hd1 : d ≤ 100000) : Calls Tryz.prog 86 #[.int .i64 y, .int .i64 (m : Int), .int .i64 d] w fun e w' => e = .returned (.int .i64 (dayR y m d)) ∧ w = w' := by
  have HA := Lib.hid (ahead_any y w h0 (by omega))
  have HD := Lib.hid (show dayR y m d = aheadY y + d - 1 + cumN y m from rfl)
  have hab := aheadY_bd h0 (show y ≤ 100000 by omega)
  generalize aheadY y = a at *
  go_enter Tryz.func86, Tryz.ntmps86
  go_wp2_with fail
  (with_reducible refine (HA.out).mono ?_)
  rintro e w1 ⟨rfl, rfl⟩
  go_wp2_with fail
  go_loop [7, 8] (fun v i => ∃ (k : Nat) (z : Int), i = .int .i64 (k : Int) ∧ v = .int .i64 z ∧ 1 ≤ k ∧ k ≤ m ∧ -200000 ≤ z ∧ z ≤ 50000000 ∧ Hid (z = a + d - 1 + cumN y k)) (fun _ i => m - (intOf i).toNat)
  case atStart => exact ⟨1, _, rfl, rfl, by omega, by omega, by omega, by omega, Lib.hid (by rw [(show cumN y 1 = 0 from rfl)]; omega)⟩
  case round =>
    obtain ⟨k, z, rfl, rfl, hk1, hk2, hz1, hz2, HZ⟩ := hrel
    by_cases hlt : k < m
    · have HDY := Lib.hid (refDays_any y (k : Int) w)
      have hdb := daysM_bd y (k : Int)
      have hc := cumN_bd y (k + 1)
      have HS := Lib.hid ((show cumN y (k + 1) = cumN y k + daysM y k by simp only [cumN]; rw [if_neg (by omega)]))
      have HN : Hid (z + daysM y (k : Int) = a + d - 1 + cumN y (k + 1)) := Lib.hid (by rw [HS.out, HZ.out]; omega)
      have hb1 : z + daysM y (k : Int) ≤ 50000000 := by rw [HN.out]; omega
      have hb2 : -200000 ≤ z + daysM y (k : Int) := by omega
      clear HS hc
      generalize daysM y (k : Int) = q at *
      go_wp2_with fail
      (with_reducible refine (HDY.out).mono ?_)
      rintro e w1 ⟨rfl, rfl⟩
      go_wp2_with fail
      go_round
      case rel => exact ⟨k + 1, z + q, by go_num, rfl, by omega, by omega, hb2, hb1, HN⟩
      case measure => simp [intOf]; omega
    · obtain rfl : k = m := by omega
      have HE : Hid (dayR y k d = z) := Lib.hid (by rw [HD.out, HZ.out])
      go_wp2_with fail
      go_ret
      rw [HE.out]
      exact ⟨rfl, rfl⟩
theorem zero_any (w : World) : Calls Tryz.prog 87 #[] w fun e w' => e = .returned (.int .i64 62135596800) ∧ w = w' := by
  have HD := Lib.hid (day_any 1970 1 1 w (by omega) (by omega) (by omega) (by omega) (by omega) (by omega))
  rw [dayR_1970, show ((1 : Nat) : Int) = 1 from rfl] at HD
  go_enter Tryz.func87, Tryz.ntmps87
  go_wp2_with fail
  (with_reducible refine (HD.out).mono ?_)
  rintro e w1 ⟨rfl, rfl⟩
  go_wp2_with fail
  go_ret
  exact ⟨rfl, rfl⟩
theorem first4_any (w : World) : Calls Tryz.prog 84 #[] w fun e w' => e = .returned (.int .i64 (-62135596800)) ∧ w = w' := by
  go_enter Tryz.func84, Tryz.ntmps84
  go_wp2_with fail
  (with_reducible refine (zero_any w).mono ?_)
  rintro e w1 ⟨rfl, rfl⟩
  go_wp2_with fail
  go_ret
  exact ⟨rfl, rfl⟩
theorem within_any (n a b : Int) (w : World) : Calls Tryz.prog 80 #[.int .i64 n, .int .i64 a, .int .i64 b] w fun e w' => e = .returned (.bool (decide (a ≤ n) && decide (n ≤ b))) ∧ w = w' := by
  by_cases h1 : a ≤ n
  · have d1 : decide (a ≤ n) = true := by simpa using h1
    rw [d1, Bool.true_and]
    go_enter Tryz.func80, Tryz.ntmps80
    go_wp2_with fail
    go_ret
    exact ⟨rfl, rfl⟩
  · have d1 : decide (a ≤ n) = false := by simpa using h1
    rw [d1, Bool.false_and]
    go_enter Tryz.func80, Tryz.ntmps80
    go_wp2_with fail
    go_ret
    exact ⟨rfl, rfl⟩

def Dt.cells (x : Dt) : Array Value := #[.int .i64 x.y, .int .i64 x.m, .int .i64 x.d, .int .i64 x.h, .int .i64 x.mi, .int .i64 x.s]
def Dt.val (x : Dt) : Value := .agg (Dt.cells x)
theorem dayR_bd {y : Int} {m : Nat} {d : Int} (h0 : 1 ≤ y) (h1 : y ≤ 9999) (hm2 : m ≤ 12) (hd0 : -100000 ≤ d) (hd1 : d ≤ 100000) : -200000 ≤ dayR y m d ∧ dayR y m d ≤ 50000000 := by
  have := aheadY_bd h0 (show y ≤ 100000 by omega)
  have := cumN_bd y m
  unfold dayR
  omega
set_option maxHeartbeats 1000000 in
theorem refMoment_any (y : Int) (m : Nat) (d h mi s : Int) (w : World) (h0 : 1 ≤ y) (h1 : y ≤ 9999) (hm1 : 1 ≤ m) (hm2 : m ≤ 12) (hd0 : -100000 ≤ d) (hd1 : d ≤ 100000) (hh0 : 0 ≤ h) (hh1 : h ≤ 23) (hi0 : 0 ≤ mi) (hi1 : mi ≤ 59) (hs0 : 0 ≤ s) (hs1 : s ≤ 59) :
    Calls Tryz.prog 64 #[.agg #[.int .i64 y, .int .i64 (m : Int), .int .i64 d, .int .i64 h, .int .i64 mi, .int .i64 s]] w fun e w' => e = .returned (.int .i64 (86400 * dayR y m d + 3600 * h + 60 * mi + s - 62135596800)) ∧ Below w.heap.size w w' := by
  have HD := Lib.hid (fun W => day_any y m d W h0 h1 hm1 hm2 hd0 hd1)
  have hb := dayR_bd h0 h1 hm2 hd0 hd1
  generalize dayR y m d = r at *
  have k1 : IntKind.i64.wrap (86400 * r) = 86400 * r := IntWalk.i64_in _ (by omega)
  have k2 : IntKind.i64.wrap (3600 * h) = 3600 * h := IntWalk.i64_in _ (by omega)
  have k3 : IntKind.i64.wrap (86400 * r + 3600 * h) = 86400 * r + 3600 * h := IntWalk.i64_in _ (by omega)
  have k4 : IntKind.i64.wrap (60 * mi) = 60 * mi := IntWalk.i64_in _ (by omega)
  have k5 : IntKind.i64.wrap (86400 * r + 3600 * h + 60 * mi) = 86400 * r + 3600 * h + 60 * mi := IntWalk.i64_in _ (by omega)
  have k6 : IntKind.i64.wrap (86400 * r + 3600 * h + 60 * mi + s) = 86400 * r + 3600 * h + 60 * mi + s := IntWalk.i64_in _ (by omega)
  have k7 : IntKind.i64.wrap (86400 * r + 3600 * h + 60 * mi + s - 62135596800) = 86400 * r + 3600 * h + 60 * mi + s - 62135596800 := IntWalk.i64_in _ (by omega)
  go_enter Tryz.func64, Tryz.ntmps64
  go_wp2_with fail
  go_quiet (first | (go_at_call 86; exact quiet_same (HD.out _)) | (go_at_call 87; exact quiet_same (zero_any _)))
  go_wp2_with fail
  go_ret
  exact ⟨rfl, Nst.below_drewN (bel_alloc (Below.refl _ _) _) _⟩
theorem last_any (w : World) : Calls Tryz.prog 85 #[] w fun e w' => e = .returned (.int .i64 253402300799) ∧ Below w.heap.size w w' := by
  have HM := Lib.hid (fun W => refMoment_any 9999 12 31 23 59 59 W (by omega) (by omega) (by omega) (by omega) (by omega) (by omega) (by omega) (by omega) (by omega) (by omega) (by omega) (by omega))
  rw [dayR_last, show ((12 : Nat) : Int) = 12 from rfl] at HM
  go_enter Tryz.func85, Tryz.ntmps85
  go_wp2_with fail
  (with_reducible refine (HM.out _).mono ?_)
  rintro e w1 ⟨rfl, hb⟩
  go_wp2_with fail
  go_ret
  exact ⟨rfl, hb⟩
theorem refMay4_any (n : Int) (w : World) : Calls Tryz.prog 63 #[.int .i64 n] w fun e w' => e = .returned (.bool (mayM n)) ∧ Below w.heap.size w w' := by
  have HM : Hid (mayM n = (decide (-62135596800 ≤ n) && decide (n ≤ 253402300799))) := rfl
  by_cases h1 : -62135596800 ≤ n
  · have d1 : decide (-62135596800 ≤ n) = true := by simpa using h1
    rw [d1, Bool.true_and] at HM
    go_enter Tryz.func63, Tryz.ntmps63
    go_wp2_with fail
    (with_reducible refine (first4_any w).mono ?_)
    rintro e w1 ⟨rfl, rfl⟩
    go_wp2_with fail
    (with_reducible refine (last_any w).mono ?_)
    rintro e w2 ⟨rfl, hb⟩
    go_wp2_with fail
    go_ret
    exact ⟨by rw [HM.out]; rfl, hb⟩
  · have d1 : decide (-62135596800 ≤ n) = false := by simpa using h1
    rw [d1, Bool.false_and] at HM
    go_enter Tryz.func63, Tryz.ntmps63
    go_wp2_with fail
    (with_reducible refine (first4_any w).mono ?_)
    rintro e w1 ⟨rfl, rfl⟩
    go_wp2_with fail
    go_ret
    exact ⟨by rw [HM.out]; rfl, Below.refl _ _⟩
theorem mayM_iff {n : Int} : mayM n = true ↔ -62135596800 ≤ n ∧ n ≤ 253402300799 := by unfold mayM; simp
theorem of_bounds {n : Int} (h : mayM n = true) : (0 ≤ n + 62135596800 ∧ n + 62135596800 ≤ 315537897599) ∧ (306 ≤ ofN n ∧ ofN n ≤ 3652364) ∧ (0 ≤ ofO n ∧ ofO n ≤ 146096) ∧ (0 ≤ ofY n ∧ ofY n ≤ 399) ∧ (0 ≤ ofI n ∧ ofI n ≤ 365) ∧ (0 ≤ ofM n ∧ ofM n ≤ 11) := by
  rw [mayM_iff] at h
  have h1 : 306 ≤ ofN n ∧ ofN n ≤ 3652364 := by unfold ofN; omega
  have h2 : 0 ≤ ofO n ∧ ofO n ≤ 146096 := by unfold ofO; omega
  obtain ⟨t1, t2, t3, t4⟩ := of_tab (ofO n) h2.1 h2.2 (ofY n) rfl
  have h4 : 0 ≤ ofI n ∧ ofI n ≤ 365 := by unfold ofI; omega
  have h5 : 0 ≤ ofM n ∧ ofM n ≤ 11 := by unfold ofM; omega
  exact ⟨by omega, h1, h2, ⟨t1, t2⟩, h4, h5⟩
end Go.Proofs.YtjmmgekildlckaaGreat
end
