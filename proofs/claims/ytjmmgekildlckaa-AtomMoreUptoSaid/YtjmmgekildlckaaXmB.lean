/-
  Tests of a rune, of a byte: begins, goes, blank$1, part$1; the reference's.
-/
import Derived.Test.YtjmmgekildlckaaXmA
import Derived.Test.YtjmmgekildlckaaUt2
import Derived.Test.YtjmmgekildlckaaEntA
namespace Go.Proofs.Ytjmmgekildlckaa
open Go.RowKit Go.Nst
set_option maxRecDepth 100000
set_option linter.unusedVariables false
set_option linter.unusedSimpArgs false

def begR (c : Int) : Bool := (decide (65 ≤ c) && decide (c ≤ 90)) || (decide (97 ≤ c) && decide (c ≤ 122)) || c == 95
def goR (c : Int) : Bool := begR c || (decide (48 ≤ c) && decide (c ≤ 57)) || c == 58 || c == 45 || c == 46
def blkR (c : Int) : Bool := c == 32 || c == 9 || c == 13 || c == 10
theorem begR_of (u : UInt8) : begR (u.toNat : Int) = begB u := by
  rw [Bool.eq_iff_iff]
  unfold begR begB
  simp
  omega
theorem goR_of (u : UInt8) : goR (u.toNat : Int) = goB u := by
  rw [Bool.eq_iff_iff]
  unfold goR goB
  rw [begR_of]
  cases begB u
  · simp
    omega
  · simp
theorem blkR_of (u : UInt8) : blkR (u.toNat : Int) = blkB u := by
  rw [Bool.eq_iff_iff]
  unfold blkR blkB
  simp
  omega
set_option maxHeartbeats 2000000 in
theorem refBegin8_any (c : Int) (w : World) (h0 : 0 ≤ c) (h1 : c ≤ 255) : Calls Try.prog 56 #[.int .u8 c] w fun e w' => e = .returned (.bool (begR c)) ∧ w = w' := by
  by_cases r0 : c ≤ 64
  · have g0 : decide ((65 : Int) ≤ c) = false := by simp; omega
    have g1 : decide (c ≤ (90 : Int)) = true := by simp; omega
    have g2 : decide ((97 : Int) ≤ c) = false := by simp; omega
    have g3 : decide (c ≤ (122 : Int)) = true := by simp; omega
    have g4 : (c == 95) = false := by simp; omega
    have HE : Hid (begR c = false) := Lib.hid (by rw [Bool.eq_iff_iff]; unfold begR; simp; omega)
    go_enter Try.func56, Try.ntmps56
    go_wp2_with fail
    go_ret
    exact ⟨by rw [HE.out]; rfl, rfl⟩
  by_cases r1 : c ≤ 90
  · have g0 : decide ((65 : Int) ≤ c) = true := by simp; omega
    have g1 : decide (c ≤ (90 : Int)) = true := by simp; omega
    have g2 : decide ((97 : Int) ≤ c) = false := by simp; omega
    have g3 : decide (c ≤ (122 : Int)) = true := by simp; omega
    have g4 : (c == 95) = false := by simp; omega
    have HE : Hid (begR c = true) := Lib.hid (by rw [Bool.eq_iff_iff]; unfold begR; simp; omega)
    go_enter Try.func56, Try.ntmps56
    go_wp2_with fail
    go_ret
    exact ⟨by rw [HE.out]; rfl, rfl⟩
  by_cases r2 : c ≤ 94
  · have g0 : decide ((65 : Int) ≤ c) = true := by simp; omega
    have g1 : decide (c ≤ (90 : Int)) = false := by simp; omega
    have g2 : decide ((97 : Int) ≤ c) = false := by simp; omega
    have g3 : decide (c ≤ (122 : Int)) = true := by simp; omega
    have g4 : (c == 95) = false := by simp; omega
    have HE : Hid (begR c = false) := Lib.hid (by rw [Bool.eq_iff_iff]; unfold begR; simp; omega)
    go_enter Try.func56, Try.ntmps56
    go_wp2_with fail
    go_ret
    exact ⟨by rw [HE.out]; rfl, rfl⟩
  by_cases r3 : c ≤ 95
  · have g0 : decide ((65 : Int) ≤ c) = true := by simp; omega
    have g1 : decide (c ≤ (90 : Int)) = false := by simp; omega
    have g2 : decide ((97 : Int) ≤ c) = false := by simp; omega
    have g3 : decide (c ≤ (122 : Int)) = true := by simp; omega
    have g4 : (c == 95) = true := by simp; omega
    have HE : Hid (begR c = true) := Lib.hid (by rw [Bool.eq_iff_iff]; unfold begR; simp; omega)
    go_enter Try.func56, Try.ntmps56
    go_wp2_with fail
    go_ret
    exact ⟨by rw [HE.out]; rfl, rfl⟩
  by_cases r4 : c ≤ 96
  · have g0 : decide ((65 : Int) ≤ c) = true := by simp; omega
    have g1 : decide (c ≤ (90 : Int)) = false := by simp; omega
    have g2 : decide ((97 : Int) ≤ c) = false := by simp; omega
    have g3 : decide (c ≤ (122 : Int)) = true := by simp; omega
    have g4 : (c == 95) = false := by simp; omega
    have HE : Hid (begR c = false) := Lib.hid (by rw [Bool.eq_iff_iff]; unfold begR; simp; omega)
    go_enter Try.func56, Try.ntmps56
    go_wp2_with fail
    go_ret
    exact ⟨by rw [HE.out]; rfl, rfl⟩
  by_cases r5 : c ≤ 122
  · have g0 : decide ((65 : Int) ≤ c) = true := by simp; omega
    have g1 : decide (c ≤ (90 : Int)) = false := by simp; omega
    have g2 : decide ((97 : Int) ≤ c) = true := by simp; omega
    have g3 : decide (c ≤ (122 : Int)) = true := by simp; omega
    have g4 : (c == 95) = false := by simp; omega
    have HE : Hid (begR c = true) := Lib.hid (by rw [Bool.eq_iff_iff]; unfold begR; simp; omega)
    go_enter Try.func56, Try.ntmps56
    go_wp2_with fail
    go_ret
    exact ⟨by rw [HE.out]; rfl, rfl⟩
  have g0 : decide ((65 : Int) ≤ c) = true := by simp; omega
  have g1 : decide (c ≤ (90 : Int)) = false := by simp; omega
  have g2 : decide ((97 : Int) ≤ c) = true := by simp; omega
  have g3 : decide (c ≤ (122 : Int)) = false := by simp; omega
  have g4 : (c == 95) = false := by simp; omega
  have HE : Hid (begR c = false) := Lib.hid (by rw [Bool.eq_iff_iff]; unfold begR; simp; omega)
  go_enter Try.func56, Try.ntmps56
  go_wp2_with fail
  go_ret
  exact ⟨by rw [HE.out]; rfl, rfl⟩
set_option maxHeartbeats 2000000 in
theorem refMore8_any (c : Int) (w : World) (h0 : 0 ≤ c) (h1 : c ≤ 255) : Calls Try.prog 57 #[.int .u8 c] w fun e w' => e = .returned (.bool (goR c)) ∧ w = w' := by
  by_cases r0 : c ≤ 44
  · have g0 : decide ((48 : Int) ≤ c) = false := by simp; omega
    have g1 : decide (c ≤ (57 : Int)) = true := by simp; omega
    have g2 : (c == 58) = false := by simp; omega
    have g3 : (c == 45) = false := by simp; omega
    have g4 : (c == 46) = false := by simp; omega
    have HE : Hid (goR c = false) := Lib.hid (by rw [Bool.eq_iff_iff]; unfold goR; simp [begR]; omega)
    have HB : begR c = false := by rw [Bool.eq_iff_iff]; unfold begR; simp; omega
    have HC := refBegin8_any c w h0 h1
    rw [HB] at HC
    have HC := Lib.hid HC
    clear HB
    go_enter Try.func57, Try.ntmps57
    go_wp2_with fail
    (with_reducible refine (HC.out).mono ?_)
    rintro e w2 ⟨rfl, rfl⟩
    go_wp2_with fail
    go_ret
    exact ⟨by rw [HE.out]; rfl, rfl⟩
  by_cases r1 : c ≤ 45
  · have g0 : decide ((48 : Int) ≤ c) = false := by simp; omega
    have g1 : decide (c ≤ (57 : Int)) = true := by simp; omega
    have g2 : (c == 58) = false := by simp; omega
    have g3 : (c == 45) = true := by simp; omega
    have g4 : (c == 46) = false := by simp; omega
    have HE : Hid (goR c = true) := Lib.hid (by rw [Bool.eq_iff_iff]; unfold goR; simp [begR]; omega)
    have HB : begR c = false := by rw [Bool.eq_iff_iff]; unfold begR; simp; omega
    have HC := refBegin8_any c w h0 h1
    rw [HB] at HC
    have HC := Lib.hid HC
    clear HB
    go_enter Try.func57, Try.ntmps57
    go_wp2_with fail
    (with_reducible refine (HC.out).mono ?_)
    rintro e w2 ⟨rfl, rfl⟩
    go_wp2_with fail
    go_ret
    exact ⟨by rw [HE.out]; rfl, rfl⟩
  by_cases r2 : c ≤ 46
  · have g0 : decide ((48 : Int) ≤ c) = false := by simp; omega
    have g1 : decide (c ≤ (57 : Int)) = true := by simp; omega
    have g2 : (c == 58) = false := by simp; omega
    have g3 : (c == 45) = false := by simp; omega
    have g4 : (c == 46) = true := by simp; omega
    have HE : Hid (goR c = true) := Lib.hid (by rw [Bool.eq_iff_iff]; unfold goR; simp [begR]; omega)
    have HB : begR c = false := by rw [Bool.eq_iff_iff]; unfold begR; simp; omega
    have HC := refBegin8_any c w h0 h1
    rw [HB] at HC
    have HC := Lib.hid HC
    clear HB
    go_enter Try.func57, Try.ntmps57
    go_wp2_with fail
    (with_reducible refine (HC.out).mono ?_)
    rintro e w2 ⟨rfl, rfl⟩
    go_wp2_with fail
    go_ret
    exact ⟨by rw [HE.out]; rfl, rfl⟩
  by_cases r3 : c ≤ 47
  · have g0 : decide ((48 : Int) ≤ c) = false := by simp; omega
    have g1 : decide (c ≤ (57 : Int)) = true := by simp; omega
    have g2 : (c == 58) = false := by simp; omega
    have g3 : (c == 45) = false := by simp; omega
    have g4 : (c == 46) = false := by simp; omega
    have HE : Hid (goR c = false) := Lib.hid (by rw [Bool.eq_iff_iff]; unfold goR; simp [begR]; omega)
    have HB : begR c = false := by rw [Bool.eq_iff_iff]; unfold begR; simp; omega
    have HC := refBegin8_any c w h0 h1
    rw [HB] at HC
    have HC := Lib.hid HC
    clear HB
    go_enter Try.func57, Try.ntmps57
    go_wp2_with fail
    (with_reducible refine (HC.out).mono ?_)
    rintro e w2 ⟨rfl, rfl⟩
    go_wp2_with fail
    go_ret
    exact ⟨by rw [HE.out]; rfl, rfl⟩
  by_cases r4 : c ≤ 57
  · have g0 : decide ((48 : Int) ≤ c) = true := by simp; omega
    have g1 : decide (c ≤ (57 : Int)) = true := by simp; omega
    have g2 : (c == 58) = false := by simp; omega
    have g3 : (c == 45) = false := by simp; omega
    have g4 : (c == 46) = false := by simp; omega
    have HE : Hid (goR c = true) := Lib.hid (by rw [Bool.eq_iff_iff]; unfold goR; simp [begR]; omega)
    have HB : begR c = false := by rw [Bool.eq_iff_iff]; unfold begR; simp; omega
    have HC := refBegin8_any c w h0 h1
    rw [HB] at HC
    have HC := Lib.hid HC
    clear HB
    go_enter Try.func57, Try.ntmps57
    go_wp2_with fail
    (with_reducible refine (HC.out).mono ?_)
    rintro e w2 ⟨rfl, rfl⟩
    go_wp2_with fail
    go_ret
    exact ⟨by rw [HE.out]; rfl, rfl⟩
  by_cases r5 : c ≤ 58
  · have g0 : decide ((48 : Int) ≤ c) = true := by simp; omega
    have g1 : decide (c ≤ (57 : Int)) = false := by simp; omega
    have g2 : (c == 58) = true := by simp; omega
    have g3 : (c == 45) = false := by simp; omega
    have g4 : (c == 46) = false := by simp; omega
    have HE : Hid (goR c = true) := Lib.hid (by rw [Bool.eq_iff_iff]; unfold goR; simp [begR]; omega)
    have HB : begR c = false := by rw [Bool.eq_iff_iff]; unfold begR; simp; omega
    have HC := refBegin8_any c w h0 h1
    rw [HB] at HC
    have HC := Lib.hid HC
    clear HB
    go_enter Try.func57, Try.ntmps57
    go_wp2_with fail
    (with_reducible refine (HC.out).mono ?_)
    rintro e w2 ⟨rfl, rfl⟩
    go_wp2_with fail
    go_ret
    exact ⟨by rw [HE.out]; rfl, rfl⟩
  by_cases r6 : c ≤ 64
  · have g0 : decide ((48 : Int) ≤ c) = true := by simp; omega
    have g1 : decide (c ≤ (57 : Int)) = false := by simp; omega
    have g2 : (c == 58) = false := by simp; omega
    have g3 : (c == 45) = false := by simp; omega
    have g4 : (c == 46) = false := by simp; omega
    have HE : Hid (goR c = false) := Lib.hid (by rw [Bool.eq_iff_iff]; unfold goR; simp [begR]; omega)
    have HB : begR c = false := by rw [Bool.eq_iff_iff]; unfold begR; simp; omega
    have HC := refBegin8_any c w h0 h1
    rw [HB] at HC
    have HC := Lib.hid HC
    clear HB
    go_enter Try.func57, Try.ntmps57
    go_wp2_with fail
    (with_reducible refine (HC.out).mono ?_)
    rintro e w2 ⟨rfl, rfl⟩
    go_wp2_with fail
    go_ret
    exact ⟨by rw [HE.out]; rfl, rfl⟩
  by_cases r7 : c ≤ 90
  · have g0 : decide ((48 : Int) ≤ c) = true := by simp; omega
    have g1 : decide (c ≤ (57 : Int)) = false := by simp; omega
    have g2 : (c == 58) = false := by simp; omega
    have g3 : (c == 45) = false := by simp; omega
    have g4 : (c == 46) = false := by simp; omega
    have HE : Hid (goR c = true) := Lib.hid (by rw [Bool.eq_iff_iff]; unfold goR; simp [begR]; omega)
    have HB : begR c = true := by rw [Bool.eq_iff_iff]; unfold begR; simp; omega
    have HC := refBegin8_any c w h0 h1
    rw [HB] at HC
    have HC := Lib.hid HC
    clear HB
    go_enter Try.func57, Try.ntmps57
    go_wp2_with fail
    (with_reducible refine (HC.out).mono ?_)
    rintro e w2 ⟨rfl, rfl⟩
    go_wp2_with fail
    go_ret
    exact ⟨by rw [HE.out]; rfl, rfl⟩
  by_cases r8 : c ≤ 94
  · have g0 : decide ((48 : Int) ≤ c) = true := by simp; omega
    have g1 : decide (c ≤ (57 : Int)) = false := by simp; omega
    have g2 : (c == 58) = false := by simp; omega
    have g3 : (c == 45) = false := by simp; omega
    have g4 : (c == 46) = false := by simp; omega
    have HE : Hid (goR c = false) := Lib.hid (by rw [Bool.eq_iff_iff]; unfold goR; simp [begR]; omega)
    have HB : begR c = false := by rw [Bool.eq_iff_iff]; unfold begR; simp; omega
    have HC := refBegin8_any c w h0 h1
    rw [HB] at HC
    have HC := Lib.hid HC
    clear HB
    go_enter Try.func57, Try.ntmps57
    go_wp2_with fail
    (with_reducible refine (HC.out).mono ?_)
    rintro e w2 ⟨rfl, rfl⟩
    go_wp2_with fail
    go_ret
    exact ⟨by rw [HE.out]; rfl, rfl⟩
  by_cases r9 : c ≤ 95
  · have g0 : decide ((48 : Int) ≤ c) = true := by simp; omega
    have g1 : decide (c ≤ (57 : Int)) = false := by simp; omega
    have g2 : (c == 58) = false := by simp; omega
    have g3 : (c == 45) = false := by simp; omega
    have g4 : (c == 46) = false := by simp; omega
    have HE : Hid (goR c = true) := Lib.hid (by rw [Bool.eq_iff_iff]; unfold goR; simp [begR]; omega)
    have HB : begR c = true := by rw [Bool.eq_iff_iff]; unfold begR; simp; omega
    have HC := refBegin8_any c w h0 h1
    rw [HB] at HC
    have HC := Lib.hid HC
    clear HB
    go_enter Try.func57, Try.ntmps57
    go_wp2_with fail
    (with_reducible refine (HC.out).mono ?_)
    rintro e w2 ⟨rfl, rfl⟩
    go_wp2_with fail
    go_ret
    exact ⟨by rw [HE.out]; rfl, rfl⟩
  by_cases r10 : c ≤ 96
  · have g0 : decide ((48 : Int) ≤ c) = true := by simp; omega
    have g1 : decide (c ≤ (57 : Int)) = false := by simp; omega
    have g2 : (c == 58) = false := by simp; omega
    have g3 : (c == 45) = false := by simp; omega
    have g4 : (c == 46) = false := by simp; omega
    have HE : Hid (goR c = false) := Lib.hid (by rw [Bool.eq_iff_iff]; unfold goR; simp [begR]; omega)
    have HB : begR c = false := by rw [Bool.eq_iff_iff]; unfold begR; simp; omega
    have HC := refBegin8_any c w h0 h1
    rw [HB] at HC
    have HC := Lib.hid HC
    clear HB
    go_enter Try.func57, Try.ntmps57
    go_wp2_with fail
    (with_reducible refine (HC.out).mono ?_)
    rintro e w2 ⟨rfl, rfl⟩
    go_wp2_with fail
    go_ret
    exact ⟨by rw [HE.out]; rfl, rfl⟩
  by_cases r11 : c ≤ 122
  · have g0 : decide ((48 : Int) ≤ c) = true := by simp; omega
    have g1 : decide (c ≤ (57 : Int)) = false := by simp; omega
    have g2 : (c == 58) = false := by simp; omega
    have g3 : (c == 45) = false := by simp; omega
    have g4 : (c == 46) = false := by simp; omega
    have HE : Hid (goR c = true) := Lib.hid (by rw [Bool.eq_iff_iff]; unfold goR; simp [begR]; omega)
    have HB : begR c = true := by rw [Bool.eq_iff_iff]; unfold begR; simp; omega
    have HC := refBegin8_any c w h0 h1
    rw [HB] at HC
    have HC := Lib.hid HC
    clear HB
    go_enter Try.func57, Try.ntmps57
    go_wp2_with fail
    (with_reducible refine (HC.out).mono ?_)
    rintro e w2 ⟨rfl, rfl⟩
    go_wp2_with fail
    go_ret
    exact ⟨by rw [HE.out]; rfl, rfl⟩
  have g0 : decide ((48 : Int) ≤ c) = true := by simp; omega
  have g1 : decide (c ≤ (57 : Int)) = false := by simp; omega
  have g2 : (c == 58) = false := by simp; omega
  have g3 : (c == 45) = false := by simp; omega
  have g4 : (c == 46) = false := by simp; omega
  have HE : Hid (goR c = false) := Lib.hid (by rw [Bool.eq_iff_iff]; unfold goR; simp [begR]; omega)
  have HB : begR c = false := by rw [Bool.eq_iff_iff]; unfold begR; simp; omega
  have HC := refBegin8_any c w h0 h1
  rw [HB] at HC
  have HC := Lib.hid HC
  clear HB
  go_enter Try.func57, Try.ntmps57
  go_wp2_with fail
  (with_reducible refine (HC.out).mono ?_)
  rintro e w2 ⟨rfl, rfl⟩
  go_wp2_with fail
  go_ret
  exact ⟨by rw [HE.out]; rfl, rfl⟩
set_option maxHeartbeats 2000000 in
theorem refBlank8_any (c : Int) (w : World) (h0 : 0 ≤ c) (h1 : c ≤ 255) : Calls Try.prog 58 #[.int .u8 c] w fun e w' => e = .returned (.bool (blkR c)) ∧ w = w' := by
  by_cases r0 : c ≤ 8
  · have g0 : (c == 9) = false := by simp; omega
    have g1 : (c == 10) = false := by simp; omega
    have g2 : (c == 13) = false := by simp; omega
    have g3 : (c == 32) = false := by simp; omega
    have HE : Hid (blkR c = false) := Lib.hid (by rw [Bool.eq_iff_iff]; unfold blkR; simp; omega)
    go_enter Try.func58, Try.ntmps58
    go_wp2_with fail
    go_ret
    exact ⟨by rw [HE.out]; rfl, rfl⟩
  by_cases r1 : c ≤ 9
  · have g0 : (c == 9) = true := by simp; omega
    have g1 : (c == 10) = false := by simp; omega
    have g2 : (c == 13) = false := by simp; omega
    have g3 : (c == 32) = false := by simp; omega
    have HE : Hid (blkR c = true) := Lib.hid (by rw [Bool.eq_iff_iff]; unfold blkR; simp; omega)
    go_enter Try.func58, Try.ntmps58
    go_wp2_with fail
    go_ret
    exact ⟨by rw [HE.out]; rfl, rfl⟩
  by_cases r2 : c ≤ 10
  · have g0 : (c == 9) = false := by simp; omega
    have g1 : (c == 10) = true := by simp; omega
    have g2 : (c == 13) = false := by simp; omega
    have g3 : (c == 32) = false := by simp; omega
    have HE : Hid (blkR c = true) := Lib.hid (by rw [Bool.eq_iff_iff]; unfold blkR; simp; omega)
    go_enter Try.func58, Try.ntmps58
    go_wp2_with fail
    go_ret
    exact ⟨by rw [HE.out]; rfl, rfl⟩
  by_cases r3 : c ≤ 12
  · have g0 : (c == 9) = false := by simp; omega
    have g1 : (c == 10) = false := by simp; omega
    have g2 : (c == 13) = false := by simp; omega
    have g3 : (c == 32) = false := by simp; omega
    have HE : Hid (blkR c = false) := Lib.hid (by rw [Bool.eq_iff_iff]; unfold blkR; simp; omega)
    go_enter Try.func58, Try.ntmps58
    go_wp2_with fail
    go_ret
    exact ⟨by rw [HE.out]; rfl, rfl⟩
  by_cases r4 : c ≤ 13
  · have g0 : (c == 9) = false := by simp; omega
    have g1 : (c == 10) = false := by simp; omega
    have g2 : (c == 13) = true := by simp; omega
    have g3 : (c == 32) = false := by simp; omega
    have HE : Hid (blkR c = true) := Lib.hid (by rw [Bool.eq_iff_iff]; unfold blkR; simp; omega)
    go_enter Try.func58, Try.ntmps58
    go_wp2_with fail
    go_ret
    exact ⟨by rw [HE.out]; rfl, rfl⟩
  by_cases r5 : c ≤ 31
  · have g0 : (c == 9) = false := by simp; omega
    have g1 : (c == 10) = false := by simp; omega
    have g2 : (c == 13) = false := by simp; omega
    have g3 : (c == 32) = false := by simp; omega
    have HE : Hid (blkR c = false) := Lib.hid (by rw [Bool.eq_iff_iff]; unfold blkR; simp; omega)
    go_enter Try.func58, Try.ntmps58
    go_wp2_with fail
    go_ret
    exact ⟨by rw [HE.out]; rfl, rfl⟩
  by_cases r6 : c ≤ 32
  · have g0 : (c == 9) = false := by simp; omega
    have g1 : (c == 10) = false := by simp; omega
    have g2 : (c == 13) = false := by simp; omega
    have g3 : (c == 32) = true := by simp; omega
    have HE : Hid (blkR c = true) := Lib.hid (by rw [Bool.eq_iff_iff]; unfold blkR; simp; omega)
    go_enter Try.func58, Try.ntmps58
    go_wp2_with fail
    go_ret
    exact ⟨by rw [HE.out]; rfl, rfl⟩
  have g0 : (c == 9) = false := by simp; omega
  have g1 : (c == 10) = false := by simp; omega
  have g2 : (c == 13) = false := by simp; omega
  have g3 : (c == 32) = false := by simp; omega
  have HE : Hid (blkR c = false) := Lib.hid (by rw [Bool.eq_iff_iff]; unfold blkR; simp; omega)
  go_enter Try.func58, Try.ntmps58
  go_wp2_with fail
  go_ret
  exact ⟨by rw [HE.out]; rfl, rfl⟩
end Go.Proofs.Ytjmmgekildlckaa
