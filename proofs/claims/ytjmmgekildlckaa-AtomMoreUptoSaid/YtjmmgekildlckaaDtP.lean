/-
  Dates and moments, in plain Lean: the date of a moment may be and has this moment; no two dates have one moment; a later one is no earlier.
-/
import Derived.WalkKit
import Derived.Test.YtjmmgekildlckaaProg
import Derived.Test.YtjmmgekildlckaaPla
import Derived.Test.YtjmmgekildlckaaDat
import Derived.IntWalk
namespace Go.Proofs.Ytjmmgekildlckaa
open Go.Nst
set_option maxRecDepth 100000
set_option linter.unusedVariables false
set_option linter.unusedSimpArgs false

theorem ok_iff (x : Dt) : x.ok = true ↔ 1 ≤ x.d ∧ x.d ≤ daysM x.y x.m ∧ 0 ≤ x.h ∧ x.h ≤ 23 ∧ 0 ≤ x.mi ∧ x.mi ≤ 59 ∧ 0 ≤ x.s ∧ x.s ≤ 59 := by
  unfold Dt.ok
  simp [and_assoc]
theorem ok_ym {x : Dt} (h : x.ok = true) : 1 ≤ x.y ∧ x.y ≤ 9999 ∧ 1 ≤ x.m ∧ x.m ≤ 12 := by
  rw [ok_iff] at h
  have h1 := h.1
  have h2 := h.2.1
  unfold daysM at h2
  split at h2
  · omega
  · omega
/-- the year's length is what the next year has ahead of it more -/
theorem ahead_next (y : Int) : aheadY (y + 1) = aheadY y + 365 + (if leapB y then 1 else 0) := by
  have := leap_num y
  unfold aheadY
  rw [this]
  have e : y + 1 - 1 = y := by omega
  rw [e]
  omega
theorem cum13 (y : Int) (h0 : 1 ≤ y) (h1 : y ≤ 9999) : cumN y 12 + daysM y 12 = 365 + (if leapB y then 1 else 0) := by
  rw [cum_T y 12 h0 h1 (by omega) (by omega), daysM_in h0 h1 (by omega) (by omega)]
  rw [if_neg (by decide)]
  simp only [cumT]
  omega
theorem days_pos {y m : Int} (h0 : 1 ≤ y) (h1 : y ≤ 9999) (h2 : 1 ≤ m) (h3 : m ≤ 12) : 28 ≤ daysM y m ∧ daysM y m ≤ 31 := by
  rw [daysM_in h0 h1 h2 h3]
  split
  · split <;> omega
  · omega
theorem cum_succ (y : Int) (k : Nat) (hk : 1 ≤ k) : cumN y (k + 1) = cumN y k + daysM y k := by
  simp only [cumN]; rw [if_neg (by omega)]
theorem cum_mono (y : Int) (h0 : 1 ≤ y) (h1 : y ≤ 9999) (k : Nat) (hk : 1 ≤ k) : ∀ j : Nat, k + j ≤ 12 → cumN y k + 28 * j ≤ cumN y (k + j)
  | 0, _ => by simp
  | j + 1, h => by
    have h2 := cum_mono y h0 h1 k hk j (by omega)
    have h3 := (days_pos h0 h1 (m := ((k + j : Nat) : Int)) (by omega) (by omega)).1
    rw [show k + (j + 1) = k + j + 1 from rfl, cum_succ y (k + j) (by omega)]
    omega
theorem cum_end {y : Int} (h0 : 1 ≤ y) (h1 : y ≤ 9999) {k : Nat} (hk : 1 ≤ k) (hk2 : k ≤ 12) : cumN y k + daysM y k ≤ 365 + (if leapB y then 1 else 0) := by
  by_cases h : k = 12
  · rw [h]; have := cum13 y h0 h1; exact Int.le_of_eq this
  · have h2 := cum_mono y h0 h1 (k + 1) (by omega) (11 - k) (by omega)
    rw [cum_succ y k hk] at h2
    have h3 := cum13 y h0 h1
    have h4 := (days_pos h0 h1 (m := 12) (by omega) (by omega)).1
    rw [show k + 1 + (11 - k) = 12 by omega] at h2
    omega
theorem cum_one (y : Int) : cumN y 1 = 0 := by simp [cumN]
theorem cum_nonneg {y : Int} (h0 : 1 ≤ y) (h1 : y ≤ 9999) {k : Nat} (hk : 1 ≤ k) (hk2 : k ≤ 12) : 0 ≤ cumN y k := by
  have h2 := cum_mono y h0 h1 1 (by omega) (k - 1) (by omega)
  rw [cum_one, show 1 + (k - 1) = k by omega] at h2
  omega
theorem ahead_mono {y : Int} : ∀ j : Nat, aheadY y + 365 * j ≤ aheadY (y + j)
  | 0 => by simp
  | j + 1 => by
    have h := ahead_mono (y := y) j
    have h2 := ahead_next (y + j)
    have h3 : (0 : Int) ≤ (if leapB (y + j) then 1 else 0) := by split <;> omega
    rw [show y + ((j + 1 : Nat) : Int) = y + (j : Int) + 1 by omega, h2]
    omega
/-- the day of a date, parted -/
theorem day_in {x : Dt} (h : x.ok = true) : ∃ k : Nat, x.m = k ∧ 1 ≤ k ∧ k ≤ 12 ∧ daysC x.y x.m x.d = aheadY x.y + (x.d - 1 + cumN x.y k) - 719162 ∧ 0 ≤ x.d - 1 + cumN x.y k ∧ x.d - 1 + cumN x.y k < 365 + (if leapB x.y then 1 else 0) ∧ x.d - 1 < daysM x.y k := by
  obtain ⟨y0, y1, m0, m1⟩ := ok_ym h
  obtain ⟨k, hk⟩ := Int.eq_ofNat_of_zero_le (show 0 ≤ x.m by omega)
  have h2 := days_same x.y k x.d y0 y1 (by omega) (by omega)
  rw [ok_iff] at h
  have h3 := cum_end y0 y1 (k := k) (by omega) (by omega)
  have h4 := cum_nonneg y0 y1 (k := k) (by omega) (by omega)
  have h5 := h.2.1
  rw [hk] at h5
  refine ⟨k, hk, by omega, by omega, ?_, by omega, by omega, by omega⟩
  rw [hk, h2]
  unfold dayR
  omega
theorem mom_bounds {x : Dt} (h : x.ok = true) : mayM x.mom = true := by
  obtain ⟨k, hk, k1, k2, e, p0, p1, _⟩ := day_in h
  obtain ⟨y0, y1, m0, m1⟩ := ok_ym h
  rw [ok_iff] at h
  obtain ⟨j, hj⟩ := Int.eq_ofNat_of_zero_le (show 0 ≤ x.y - 1 by omega)
  obtain ⟨j2, hj2⟩ := Int.eq_ofNat_of_zero_le (show 0 ≤ 10000 - (x.y + 1) by omega)
  have a1 := ahead_mono (y := 1) j
  rw [show (1 : Int) + (j : Int) = x.y by omega] at a1
  have a2 := ahead_mono (y := x.y + 1) j2
  rw [show x.y + 1 + (j2 : Int) = 10000 by omega] at a2
  have a3 := ahead_next x.y
  have a4 : aheadY 1 = 0 := by decide
  have a5 : aheadY 10000 = 3652059 := by decide
  unfold Dt.mom
  rw [e, mayM_iff]
  omega
theorem day_inj {x z : Dt} (hx : x.ok = true) (hz : z.ok = true) (h : daysC x.y x.m x.d = daysC z.y z.m z.d) : x.y = z.y ∧ x.m = z.m ∧ x.d = z.d := by
  obtain ⟨k, hk, k1, k2, e, p0, p1, p2⟩ := day_in hx
  obtain ⟨j, hj, j1, j2, f, q0, q1, q2⟩ := day_in hz
  obtain ⟨x0, x1, _, _⟩ := ok_ym hx
  obtain ⟨z0, z1, _, _⟩ := ok_ym hz
  rw [ok_iff] at hx hz
  rw [e, f] at h
  have hy : x.y = z.y := by
    rcases Int.lt_trichotomy x.y z.y with hlt | heq | hgt
    · obtain ⟨i, hi⟩ := Int.eq_ofNat_of_zero_le (show 0 ≤ z.y - (x.y + 1) by omega)
      have a1 := ahead_mono (y := x.y + 1) i
      rw [show x.y + 1 + (i : Int) = z.y by omega] at a1
      have a3 := ahead_next x.y
      omega
    · exact heq
    · obtain ⟨i, hi⟩ := Int.eq_ofNat_of_zero_le (show 0 ≤ x.y - (z.y + 1) by omega)
      have a1 := ahead_mono (y := z.y + 1) i
      rw [show z.y + 1 + (i : Int) = x.y by omega] at a1
      have a3 := ahead_next z.y
      omega
  rw [hy] at h p2
  have h2 : x.d - 1 + cumN z.y k = z.d - 1 + cumN z.y j := by omega
  have hm : k = j := by
    rcases Nat.lt_trichotomy k j with hlt | heq | hgt
    · have c1 := cum_mono z.y z0 z1 (k + 1) (by omega) (j - (k + 1)) (by omega)
      rw [cum_succ z.y k k1, show k + 1 + (j - (k + 1)) = j by omega] at c1
      omega
    · exact heq
    · have c1 := cum_mono z.y z0 z1 (j + 1) (by omega) (k - (j + 1)) (by omega)
      rw [cum_succ z.y j j1, show j + 1 + (k - (j + 1)) = k by omega] at c1
      omega
  subst hm
  exact ⟨hy, by omega, by omega⟩
theorem mom_inj {x z : Dt} (hx : x.ok = true) (hz : z.ok = true) (h : x.mom = z.mom) : x = z := by
  have hx' := (ok_iff x).1 hx
  have hz' := (ok_iff z).1 hz
  have hd : daysC x.y x.m x.d = daysC z.y z.m z.d := by unfold Dt.mom at h; omega
  obtain ⟨a, b, c⟩ := day_inj hx hz hd
  unfold Dt.mom at h
  rw [hd] at h
  obtain ⟨xy, xm, xd, xh, xmi, xs⟩ := x
  obtain ⟨zy, zm, zd, zh, zmi, zs⟩ := z
  simp only at *
  have e1 : xh = zh := by omega
  have e2 : xmi = zmi := by omega
  have e3 : xs = zs := by omega
  rw [a, b, c, e1, e2, e3]
theorem leap_400 (y E : Int) : leapB (y + 400 * E) = leapB y := by
  unfold leapB
  have e1 : (y + 400 * E) % 4 = y % 4 := by omega
  have e2 : (y + 400 * E) % 100 = y % 100 := by omega
  have e3 : (y + 400 * E) % 400 = y % 400 := by omega
  rw [e1, e2, e3]
/-- the date of a moment may be, and has this moment -/
theorem ofD_ok {n : Int} (h : mayM n = true) : (ofD n).ok = true ∧ (ofD n).mom = n := by
  obtain ⟨hw, hN, hO, hY, hI, hM⟩ := of_bounds h
  obtain ⟨_, _, t3, t4⟩ := of_tab (ofO n) hO.1 hO.2 (ofY n) rfl
  have eO : ofO n = ofN n - 146097 * (ofN n / 146097) := by unfold ofO; omega
  have eI : ofI n = ofO n - (365 * ofY n + ofY n / 4 - ofY n / 100) := rfl
  have eM : ofM n = (5 * ofI n + 2) / 153 := rfl
  have eN : ofN n = (n + 62135596800) / 86400 + 306 := rfl
  have eL := leap_num (ofY n + 1)
  rw [show ofY n + 1 - 1 = ofY n by omega] at eL
  have hE : 0 ≤ ofN n / 146097 ∧ ofN n / 146097 ≤ 24 := by omega
  unfold ofD
  generalize ofN n = N at *
  generalize ofO n = O at *
  generalize ofY n = Y at *
  generalize ofI n = I at *
  generalize ofM n = M at *
  have hI2 : I < 365 + (if leapB (Y + 1) then 1 else 0) := by rw [eL]; omega
  have hl2 : (if leapB (Y + 1) then (1 : Int) else 0) ≤ 1 := by split <;> omega
  clear t3 t4 eL
  generalize hE' : N / 146097 = E at *
  by_cases h12 : 12 < M + 3
  · rw [if_pos h12]
    have hy1 : 1 ≤ Y + 400 * E + 1 ∧ Y + 400 * E + 1 ≤ 9999 := by
      refine ⟨by omega, ?_⟩
      by_cases hh : E = 24
      · subst hh
        omega
      · omega
    have hm : M + 3 - 12 = 1 ∨ M + 3 - 12 = 2 := by omega
    have hdm : I - (153 * M + 2) / 5 + 1 ≤ daysM (Y + 400 * E + 1) (M + 3 - 12) := by
      rw [daysM_in hy1.1 hy1.2 (by omega) (by omega)]
      rcases hm with hm | hm
      · rw [hm, if_neg (by omega)]; omega
      · rw [hm, if_pos rfl, show Y + 400 * E + 1 = Y + 1 + 400 * E by omega, leap_400]
        cases hl : leapB (Y + 1) with
        | true => simp only [hl, if_true] at *; omega
        | false => simp only [hl, Bool.false_eq_true, if_false] at *; omega
    refine ⟨?_, ?_⟩
    · rw [ok_iff]
      simp only
      refine ⟨by omega, hdm, by omega, by omega, by omega, by omega, by omega, by omega⟩
    · unfold Dt.mom daysC
      simp only
      rw [if_pos (by omega)]
      have g1 : (Y + 400 * E + 1 - 1) / 400 = E := by omega
      have g2 : (Y + 400 * E + 1 - 1) % 400 = Y := by omega
      rw [g1, g2, show M + 3 - 12 + 9 = M by omega]
      omega
  · rw [if_neg h12]
    have hy1 : 1 ≤ Y + 400 * E ∧ Y + 400 * E ≤ 9999 := by
      refine ⟨?_, by omega⟩
      by_cases hh : E = 0
      · subst hh
        omega
      · omega
    have hdm : I - (153 * M + 2) / 5 + 1 ≤ daysM (Y + 400 * E) (M + 3) := by
      rw [daysM_in hy1.1 hy1.2 (by omega) (by omega), if_neg (by omega)]
      rcases (by omega : M = 0 ∨ M = 1 ∨ M = 2 ∨ M = 3 ∨ M = 4 ∨ M = 5 ∨ M = 6 ∨ M = 7 ∨ M = 8 ∨ M = 9) with e | e | e | e | e | e | e | e | e | e <;> subst e <;> omega
    refine ⟨?_, ?_⟩
    · rw [ok_iff]
      simp only
      refine ⟨by omega, hdm, by omega, by omega, by omega, by omega, by omega, by omega⟩
    · unfold Dt.mom daysC
      simp only
      rw [if_neg (by omega)]
      have g1 : (Y + 400 * E) / 400 = E := by omega
      have g2 : (Y + 400 * E) % 400 = Y := by omega
      rw [g1, g2, show M + 3 - 3 = M by omega]
      omega
theorem ofD_mom {x : Dt} (h : x.ok = true) : ofD x.mom = x :=
  mom_inj (ofD_ok (mom_bounds h)).1 h (ofD_ok (mom_bounds h)).2
/-- a later moment's year is no earlier -/
theorem year_mono {x z : Dt} (hx : x.ok = true) (hz : z.ok = true) (h : x.mom ≤ z.mom) : x.y ≤ z.y := by
  have hx' := (ok_iff x).1 hx
  have hz' := (ok_iff z).1 hz
  rcases Int.lt_or_le z.y x.y with hlt | hge
  · obtain ⟨k, hk, k1, k2, e, p0, p1, p2⟩ := day_in hx
    obtain ⟨j, hj, j1, j2, f, q0, q1, q2⟩ := day_in hz
    obtain ⟨i, hi⟩ := Int.eq_ofNat_of_zero_le (show 0 ≤ x.y - (z.y + 1) by omega)
    have a1 := ahead_mono (y := z.y + 1) i
    rw [show z.y + 1 + (i : Int) = x.y by omega] at a1
    have a3 := ahead_next z.y
    unfold Dt.mom at h
    rw [e, f] at h
    omega
  · exact hge
end Go.Proofs.Ytjmmgekildlckaa
