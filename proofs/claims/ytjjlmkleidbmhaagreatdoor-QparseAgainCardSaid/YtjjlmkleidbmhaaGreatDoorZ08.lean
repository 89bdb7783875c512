/-
  Queries' texts and what they lean on, part 8: only what the claims need.
-/
import Derived.Test.YtjjlmkleidbmhaaGreatDoorZ03
import Derived.Test.YtjjlmkleidbmhaaGreatDoorZ06
import Derived.Test.YtjjlmkleidbmhaaGreatDoorZ01
import Derived.Test.YtjjlmkleidbmhaaGreatDoorZ04
import Derived.Test.YtjjlmkleidbmhaaGreatDoorZ07
section
section
namespace Go.Proofs.YtjjlmkleidbmhaaGreatDoor
open Go.RowKit Go.Nst
set_option maxRecDepth 100000
set_option linter.unusedVariables false
set_option linter.unusedSimpArgs false

set_option maxHeartbeats 4000000 in
theorem letter_any (c : Int) (w : World) (h0 : 0 ≤ c) (h1 : c ≤ 1114111) : Calls Tryz.prog 110 #[.int .i32 c] w fun e w' => e = .returned (.bool (letterB c)) ∧ w = w' := by
  by_cases r0 : c ≤ 47
  · have g0 : decide (c < (192 : Int)) = true := by simp; omega
    have g1 : decide ((97 : Int) ≤ c) = false := by simp; omega
    have g2 : decide (c ≤ (122 : Int)) = true := by simp; omega
    have g3 : decide ((48 : Int) ≤ c) = false := by simp; omega
    have g4 : decide (c ≤ (57 : Int)) = true := by simp; omega
    have g5 : (c == 215) = false := by simp; omega
    have g6 : (c == 247) = false := by simp; omega
    have g7 : (c == 65533) = false := by simp; omega
    have g8 : decide ((8192 : Int) ≤ c) = false := by simp; omega
    have g9 : decide (c ≤ (8303 : Int)) = true := by simp; omega
    have g10 : decide ((12288 : Int) ≤ c) = false := by simp; omega
    have g11 : decide (c ≤ (12351 : Int)) = true := by simp; omega
    rw [show letterB c = false by unfold letterB; rw [if_pos (by omega)]; simp; omega]
    clear r0
    go_enter Tryz.func110, Tryz.ntmps110
    go_wp2_with fail
    go_ret
    exact ⟨rfl, rfl⟩
  by_cases r1 : c ≤ 57
  · have g0 : decide (c < (192 : Int)) = true := by simp; omega
    have g1 : decide ((97 : Int) ≤ c) = false := by simp; omega
    have g2 : decide (c ≤ (122 : Int)) = true := by simp; omega
    have g3 : decide ((48 : Int) ≤ c) = true := by simp; omega
    have g4 : decide (c ≤ (57 : Int)) = true := by simp; omega
    have g5 : (c == 215) = false := by simp; omega
    have g6 : (c == 247) = false := by simp; omega
    have g7 : (c == 65533) = false := by simp; omega
    have g8 : decide ((8192 : Int) ≤ c) = false := by simp; omega
    have g9 : decide (c ≤ (8303 : Int)) = true := by simp; omega
    have g10 : decide ((12288 : Int) ≤ c) = false := by simp; omega
    have g11 : decide (c ≤ (12351 : Int)) = true := by simp; omega
    rw [show letterB c = true by unfold letterB; rw [if_pos (by omega)]; simp; omega]
    clear r0 r1
    go_enter Tryz.func110, Tryz.ntmps110
    go_wp2_with fail
    go_ret
    exact ⟨rfl, rfl⟩
  by_cases r2 : c ≤ 96
  · have g0 : decide (c < (192 : Int)) = true := by simp; omega
    have g1 : decide ((97 : Int) ≤ c) = false := by simp; omega
    have g2 : decide (c ≤ (122 : Int)) = true := by simp; omega
    have g3 : decide ((48 : Int) ≤ c) = true := by simp; omega
    have g4 : decide (c ≤ (57 : Int)) = false := by simp; omega
    have g5 : (c == 215) = false := by simp; omega
    have g6 : (c == 247) = false := by simp; omega
    have g7 : (c == 65533) = false := by simp; omega
    have g8 : decide ((8192 : Int) ≤ c) = false := by simp; omega
    have g9 : decide (c ≤ (8303 : Int)) = true := by simp; omega
    have g10 : decide ((12288 : Int) ≤ c) = false := by simp; omega
    have g11 : decide (c ≤ (12351 : Int)) = true := by simp; omega
    rw [show letterB c = false by unfold letterB; rw [if_pos (by omega)]; simp; omega]
    clear r0 r1 r2
    go_enter Tryz.func110, Tryz.ntmps110
    go_wp2_with fail
    go_ret
    exact ⟨rfl, rfl⟩
  by_cases r3 : c ≤ 122
  · have g0 : decide (c < (192 : Int)) = true := by simp; omega
    have g1 : decide ((97 : Int) ≤ c) = true := by simp; omega
    have g2 : decide (c ≤ (122 : Int)) = true := by simp; omega
    have g3 : decide ((48 : Int) ≤ c) = true := by simp; omega
    have g4 : decide (c ≤ (57 : Int)) = false := by simp; omega
    have g5 : (c == 215) = false := by simp; omega
    have g6 : (c == 247) = false := by simp; omega
    have g7 : (c == 65533) = false := by simp; omega
    have g8 : decide ((8192 : Int) ≤ c) = false := by simp; omega
    have g9 : decide (c ≤ (8303 : Int)) = true := by simp; omega
    have g10 : decide ((12288 : Int) ≤ c) = false := by simp; omega
    have g11 : decide (c ≤ (12351 : Int)) = true := by simp; omega
    rw [show letterB c = true by unfold letterB; rw [if_pos (by omega)]; simp; omega]
    clear r0 r1 r2 r3
    go_enter Tryz.func110, Tryz.ntmps110
    go_wp2_with fail
    go_ret
    exact ⟨rfl, rfl⟩
  by_cases r4 : c ≤ 191
  · have g0 : decide (c < (192 : Int)) = true := by simp; omega
    have g1 : decide ((97 : Int) ≤ c) = true := by simp; omega
    have g2 : decide (c ≤ (122 : Int)) = false := by simp; omega
    have g3 : decide ((48 : Int) ≤ c) = true := by simp; omega
    have g4 : decide (c ≤ (57 : Int)) = false := by simp; omega
    have g5 : (c == 215) = false := by simp; omega
    have g6 : (c == 247) = false := by simp; omega
    have g7 : (c == 65533) = false := by simp; omega
    have g8 : decide ((8192 : Int) ≤ c) = false := by simp; omega
    have g9 : decide (c ≤ (8303 : Int)) = true := by simp; omega
    have g10 : decide ((12288 : Int) ≤ c) = false := by simp; omega
    have g11 : decide (c ≤ (12351 : Int)) = true := by simp; omega
    rw [show letterB c = false by unfold letterB; rw [if_pos (by omega)]; simp; omega]
    clear r0 r1 r2 r3 r4
    go_enter Tryz.func110, Tryz.ntmps110
    go_wp2_with fail
    go_ret
    exact ⟨rfl, rfl⟩
  by_cases r5 : c ≤ 214
  · have g0 : decide (c < (192 : Int)) = false := by simp; omega
    have g1 : decide ((97 : Int) ≤ c) = true := by simp; omega
    have g2 : decide (c ≤ (122 : Int)) = false := by simp; omega
    have g3 : decide ((48 : Int) ≤ c) = true := by simp; omega
    have g4 : decide (c ≤ (57 : Int)) = false := by simp; omega
    have g5 : (c == 215) = false := by simp; omega
    have g6 : (c == 247) = false := by simp; omega
    have g7 : (c == 65533) = false := by simp; omega
    have g8 : decide ((8192 : Int) ≤ c) = false := by simp; omega
    have g9 : decide (c ≤ (8303 : Int)) = true := by simp; omega
    have g10 : decide ((12288 : Int) ≤ c) = false := by simp; omega
    have g11 : decide (c ≤ (12351 : Int)) = true := by simp; omega
    rw [show letterB c = true by unfold letterB; rw [if_neg (by omega)]; simp; omega]
    clear r0 r1 r2 r3 r4 r5
    go_enter Tryz.func110, Tryz.ntmps110
    go_wp2_with fail
    go_ret
    exact ⟨rfl, rfl⟩
  by_cases r6 : c ≤ 215
  · have g0 : decide (c < (192 : Int)) = false := by simp; omega
    have g1 : decide ((97 : Int) ≤ c) = true := by simp; omega
    have g2 : decide (c ≤ (122 : Int)) = false := by simp; omega
    have g3 : decide ((48 : Int) ≤ c) = true := by simp; omega
    have g4 : decide (c ≤ (57 : Int)) = false := by simp; omega
    have g5 : (c == 215) = true := by simp; omega
    have g6 : (c == 247) = false := by simp; omega
    have g7 : (c == 65533) = false := by simp; omega
    have g8 : decide ((8192 : Int) ≤ c) = false := by simp; omega
    have g9 : decide (c ≤ (8303 : Int)) = true := by simp; omega
    have g10 : decide ((12288 : Int) ≤ c) = false := by simp; omega
    have g11 : decide (c ≤ (12351 : Int)) = true := by simp; omega
    rw [show letterB c = false by unfold letterB; rw [if_neg (by omega)]; simp; omega]
    clear r0 r1 r2 r3 r4 r5 r6
    go_enter Tryz.func110, Tryz.ntmps110
    go_wp2_with fail
    go_ret
    exact ⟨rfl, rfl⟩
  by_cases r7 : c ≤ 246
  · have g0 : decide (c < (192 : Int)) = false := by simp; omega
    have g1 : decide ((97 : Int) ≤ c) = true := by simp; omega
    have g2 : decide (c ≤ (122 : Int)) = false := by simp; omega
    have g3 : decide ((48 : Int) ≤ c) = true := by simp; omega
    have g4 : decide (c ≤ (57 : Int)) = false := by simp; omega
    have g5 : (c == 215) = false := by simp; omega
    have g6 : (c == 247) = false := by simp; omega
    have g7 : (c == 65533) = false := by simp; omega
    have g8 : decide ((8192 : Int) ≤ c) = false := by simp; omega
    have g9 : decide (c ≤ (8303 : Int)) = true := by simp; omega
    have g10 : decide ((12288 : Int) ≤ c) = false := by simp; omega
    have g11 : decide (c ≤ (12351 : Int)) = true := by simp; omega
    rw [show letterB c = true by unfold letterB; rw [if_neg (by omega)]; simp; omega]
    clear r0 r1 r2 r3 r4 r5 r6 r7
    go_enter Tryz.func110, Tryz.ntmps110
    go_wp2_with fail
    go_ret
    exact ⟨rfl, rfl⟩
  by_cases r8 : c ≤ 247
  · have g0 : decide (c < (192 : Int)) = false := by simp; omega
    have g1 : decide ((97 : Int) ≤ c) = true := by simp; omega
    have g2 : decide (c ≤ (122 : Int)) = false := by simp; omega
    have g3 : decide ((48 : Int) ≤ c) = true := by simp; omega
    have g4 : decide (c ≤ (57 : Int)) = false := by simp; omega
    have g5 : (c == 215) = false := by simp; omega
    have g6 : (c == 247) = true := by simp; omega
    have g7 : (c == 65533) = false := by simp; omega
    have g8 : decide ((8192 : Int) ≤ c) = false := by simp; omega
    have g9 : decide (c ≤ (8303 : Int)) = true := by simp; omega
    have g10 : decide ((12288 : Int) ≤ c) = false := by simp; omega
    have g11 : decide (c ≤ (12351 : Int)) = true := by simp; omega
    rw [show letterB c = false by unfold letterB; rw [if_neg (by omega)]; simp; omega]
    clear r0 r1 r2 r3 r4 r5 r6 r7 r8
    go_enter Tryz.func110, Tryz.ntmps110
    go_wp2_with fail
    go_ret
    exact ⟨rfl, rfl⟩
  by_cases r9 : c ≤ 8191
  · have g0 : decide (c < (192 : Int)) = false := by simp; omega
    have g1 : decide ((97 : Int) ≤ c) = true := by simp; omega
    have g2 : decide (c ≤ (122 : Int)) = false := by simp; omega
    have g3 : decide ((48 : Int) ≤ c) = true := by simp; omega
    have g4 : decide (c ≤ (57 : Int)) = false := by simp; omega
    have g5 : (c == 215) = false := by simp; omega
    have g6 : (c == 247) = false := by simp; omega
    have g7 : (c == 65533) = false := by simp; omega
    have g8 : decide ((8192 : Int) ≤ c) = false := by simp; omega
    have g9 : decide (c ≤ (8303 : Int)) = true := by simp; omega
    have g10 : decide ((12288 : Int) ≤ c) = false := by simp; omega
    have g11 : decide (c ≤ (12351 : Int)) = true := by simp; omega
    rw [show letterB c = true by unfold letterB; rw [if_neg (by omega)]; simp; omega]
    clear r0 r1 r2 r3 r4 r5 r6 r7 r8 r9
    go_enter Tryz.func110, Tryz.ntmps110
    go_wp2_with fail
    go_ret
    exact ⟨rfl, rfl⟩
  by_cases r10 : c ≤ 8303
  · have g0 : decide (c < (192 : Int)) = false := by simp; omega
    have g1 : decide ((97 : Int) ≤ c) = true := by simp; omega
    have g2 : decide (c ≤ (122 : Int)) = false := by simp; omega
    have g3 : decide ((48 : Int) ≤ c) = true := by simp; omega
    have g4 : decide (c ≤ (57 : Int)) = false := by simp; omega
    have g5 : (c == 215) = false := by simp; omega
    have g6 : (c == 247) = false := by simp; omega
    have g7 : (c == 65533) = false := by simp; omega
    have g8 : decide ((8192 : Int) ≤ c) = true := by simp; omega
    have g9 : decide (c ≤ (8303 : Int)) = true := by simp; omega
    have g10 : decide ((12288 : Int) ≤ c) = false := by simp; omega
    have g11 : decide (c ≤ (12351 : Int)) = true := by simp; omega
    rw [show letterB c = false by unfold letterB; rw [if_neg (by omega)]; simp; omega]
    clear r0 r1 r2 r3 r4 r5 r6 r7 r8 r9 r10
    go_enter Tryz.func110, Tryz.ntmps110
    go_wp2_with fail
    go_ret
    exact ⟨rfl, rfl⟩
  by_cases r11 : c ≤ 12287
  · have g0 : decide (c < (192 : Int)) = false := by simp; omega
    have g1 : decide ((97 : Int) ≤ c) = true := by simp; omega
    have g2 : decide (c ≤ (122 : Int)) = false := by simp; omega
    have g3 : decide ((48 : Int) ≤ c) = true := by simp; omega
    have g4 : decide (c ≤ (57 : Int)) = false := by simp; omega
    have g5 : (c == 215) = false := by simp; omega
    have g6 : (c == 247) = false := by simp; omega
    have g7 : (c == 65533) = false := by simp; omega
    have g8 : decide ((8192 : Int) ≤ c) = true := by simp; omega
    have g9 : decide (c ≤ (8303 : Int)) = false := by simp; omega
    have g10 : decide ((12288 : Int) ≤ c) = false := by simp; omega
    have g11 : decide (c ≤ (12351 : Int)) = true := by simp; omega
    rw [show letterB c = true by unfold letterB; rw [if_neg (by omega)]; simp; omega]
    clear r0 r1 r2 r3 r4 r5 r6 r7 r8 r9 r10 r11
    go_enter Tryz.func110, Tryz.ntmps110
    go_wp2_with fail
    go_ret
    exact ⟨rfl, rfl⟩
  by_cases r12 : c ≤ 12351
  · have g0 : decide (c < (192 : Int)) = false := by simp; omega
    have g1 : decide ((97 : Int) ≤ c) = true := by simp; omega
    have g2 : decide (c ≤ (122 : Int)) = false := by simp; omega
    have g3 : decide ((48 : Int) ≤ c) = true := by simp; omega
    have g4 : decide (c ≤ (57 : Int)) = false := by simp; omega
    have g5 : (c == 215) = false := by simp; omega
    have g6 : (c == 247) = false := by simp; omega
    have g7 : (c == 65533) = false := by simp; omega
    have g8 : decide ((8192 : Int) ≤ c) = true := by simp; omega
    have g9 : decide (c ≤ (8303 : Int)) = false := by simp; omega
    have g10 : decide ((12288 : Int) ≤ c) = true := by simp; omega
    have g11 : decide (c ≤ (12351 : Int)) = true := by simp; omega
    rw [show letterB c = false by unfold letterB; rw [if_neg (by omega)]; simp; omega]
    clear r0 r1 r2 r3 r4 r5 r6 r7 r8 r9 r10 r11 r12
    go_enter Tryz.func110, Tryz.ntmps110
    go_wp2_with fail
    go_ret
    exact ⟨rfl, rfl⟩
  by_cases r13 : c ≤ 65532
  · have g0 : decide (c < (192 : Int)) = false := by simp; omega
    have g1 : decide ((97 : Int) ≤ c) = true := by simp; omega
    have g2 : decide (c ≤ (122 : Int)) = false := by simp; omega
    have g3 : decide ((48 : Int) ≤ c) = true := by simp; omega
    have g4 : decide (c ≤ (57 : Int)) = false := by simp; omega
    have g5 : (c == 215) = false := by simp; omega
    have g6 : (c == 247) = false := by simp; omega
    have g7 : (c == 65533) = false := by simp; omega
    have g8 : decide ((8192 : Int) ≤ c) = true := by simp; omega
    have g9 : decide (c ≤ (8303 : Int)) = false := by simp; omega
    have g10 : decide ((12288 : Int) ≤ c) = true := by simp; omega
    have g11 : decide (c ≤ (12351 : Int)) = false := by simp; omega
    rw [show letterB c = true by unfold letterB; rw [if_neg (by omega)]; simp; omega]
    clear r0 r1 r2 r3 r4 r5 r6 r7 r8 r9 r10 r11 r12 r13
    go_enter Tryz.func110, Tryz.ntmps110
    go_wp2_with fail
    go_ret
    exact ⟨rfl, rfl⟩
  by_cases r14 : c ≤ 65533
  · have g0 : decide (c < (192 : Int)) = false := by simp; omega
    have g1 : decide ((97 : Int) ≤ c) = true := by simp; omega
    have g2 : decide (c ≤ (122 : Int)) = false := by simp; omega
    have g3 : decide ((48 : Int) ≤ c) = true := by simp; omega
    have g4 : decide (c ≤ (57 : Int)) = false := by simp; omega
    have g5 : (c == 215) = false := by simp; omega
    have g6 : (c == 247) = false := by simp; omega
    have g7 : (c == 65533) = true := by simp; omega
    have g8 : decide ((8192 : Int) ≤ c) = true := by simp; omega
    have g9 : decide (c ≤ (8303 : Int)) = false := by simp; omega
    have g10 : decide ((12288 : Int) ≤ c) = true := by simp; omega
    have g11 : decide (c ≤ (12351 : Int)) = false := by simp; omega
    rw [show letterB c = false by unfold letterB; rw [if_neg (by omega)]; simp; omega]
    clear r0 r1 r2 r3 r4 r5 r6 r7 r8 r9 r10 r11 r12 r13 r14
    go_enter Tryz.func110, Tryz.ntmps110
    go_wp2_with fail
    go_ret
    exact ⟨rfl, rfl⟩
  have g0 : decide (c < (192 : Int)) = false := by simp; omega
  have g1 : decide ((97 : Int) ≤ c) = true := by simp; omega
  have g2 : decide (c ≤ (122 : Int)) = false := by simp; omega
  have g3 : decide ((48 : Int) ≤ c) = true := by simp; omega
  have g4 : decide (c ≤ (57 : Int)) = false := by simp; omega
  have g5 : (c == 215) = false := by simp; omega
  have g6 : (c == 247) = false := by simp; omega
  have g7 : (c == 65533) = false := by simp; omega
  have g8 : decide ((8192 : Int) ≤ c) = true := by simp; omega
  have g9 : decide (c ≤ (8303 : Int)) = false := by simp; omega
  have g10 : decide ((12288 : Int) ≤ c) = true := by simp; omega
  have g11 : decide (c ≤ (12351 : Int)) = false := by simp; omega
  rw [show letterB c = true by unfold letterB; rw [if_neg (by omega)]; simp; omega]
  clear r0 r1 r2 r3 r4 r5 r6 r7 r8 r9 r10 r11 r12 r13 r14
  go_enter Tryz.func110, Tryz.ntmps110
  go_wp2_with fail
  go_ret
  exact ⟨rfl, rfl⟩
set_option maxHeartbeats 4000000 in
theorem refLetter_any (c : Int) (w : World) (h0 : 0 ≤ c) (h1 : c ≤ 1114111) : Calls Tryz.prog 99 #[.int .i32 c] w fun e w' => e = .returned (.bool (letterB c)) ∧ w = w' := by
  by_cases r0 : c ≤ 47
  · have g0 : decide (c < (192 : Int)) = true := by simp; omega
    have g1 : decide ((97 : Int) ≤ c) = false := by simp; omega
    have g2 : decide (c ≤ (122 : Int)) = true := by simp; omega
    have g3 : decide ((48 : Int) ≤ c) = false := by simp; omega
    have g4 : decide (c ≤ (57 : Int)) = true := by simp; omega
    have g5 : (c == 215) = false := by simp; omega
    have g6 : (c == 247) = false := by simp; omega
    have g7 : (c == 65533) = false := by simp; omega
    have g8 : decide ((8192 : Int) ≤ c) = false := by simp; omega
    have g9 : decide (c ≤ (8303 : Int)) = true := by simp; omega
    have g10 : decide ((12288 : Int) ≤ c) = false := by simp; omega
    have g11 : decide (c ≤ (12351 : Int)) = true := by simp; omega
    rw [show letterB c = false by unfold letterB; rw [if_pos (by omega)]; simp; omega]
    clear r0
    go_enter Tryz.func99, Tryz.ntmps99
    go_wp2_with fail
    go_ret
    exact ⟨rfl, rfl⟩
  by_cases r1 : c ≤ 57
  · have g0 : decide (c < (192 : Int)) = true := by simp; omega
    have g1 : decide ((97 : Int) ≤ c) = false := by simp; omega
    have g2 : decide (c ≤ (122 : Int)) = true := by simp; omega
    have g3 : decide ((48 : Int) ≤ c) = true := by simp; omega
    have g4 : decide (c ≤ (57 : Int)) = true := by simp; omega
    have g5 : (c == 215) = false := by simp; omega
    have g6 : (c == 247) = false := by simp; omega
    have g7 : (c == 65533) = false := by simp; omega
    have g8 : decide ((8192 : Int) ≤ c) = false := by simp; omega
    have g9 : decide (c ≤ (8303 : Int)) = true := by simp; omega
    have g10 : decide ((12288 : Int) ≤ c) = false := by simp; omega
    have g11 : decide (c ≤ (12351 : Int)) = true := by simp; omega
    rw [show letterB c = true by unfold letterB; rw [if_pos (by omega)]; simp; omega]
    clear r0 r1
    go_enter Tryz.func99, Tryz.ntmps99
    go_wp2_with fail
    go_ret
    exact ⟨rfl, rfl⟩
  by_cases r2 : c ≤ 96
  · have g0 : decide (c < (192 : Int)) = true := by simp; omega
    have g1 : decide ((97 : Int) ≤ c) = false := by simp; omega
    have g2 : decide (c ≤ (122 : Int)) = true := by simp; omega
    have g3 : decide ((48 : Int) ≤ c) = true := by simp; omega
    have g4 : decide (c ≤ (57 : Int)) = false := by simp; omega
    have g5 : (c == 215) = false := by simp; omega
    have g6 : (c == 247) = false := by simp; omega
    have g7 : (c == 65533) = false := by simp; omega
    have g8 : decide ((8192 : Int) ≤ c) = false := by simp; omega
    have g9 : decide (c ≤ (8303 : Int)) = true := by simp; omega
    have g10 : decide ((12288 : Int) ≤ c) = false := by simp; omega
    have g11 : decide (c ≤ (12351 : Int)) = true := by simp; omega
    rw [show letterB c = false by unfold letterB; rw [if_pos (by omega)]; simp; omega]
    clear r0 r1 r2
    go_enter Tryz.func99, Tryz.ntmps99
    go_wp2_with fail
    go_ret
    exact ⟨rfl, rfl⟩
  by_cases r3 : c ≤ 122
  · have g0 : decide (c < (192 : Int)) = true := by simp; omega
    have g1 : decide ((97 : Int) ≤ c) = true := by simp; omega
    have g2 : decide (c ≤ (122 : Int)) = true := by simp; omega
    have g3 : decide ((48 : Int) ≤ c) = true := by simp; omega
    have g4 : decide (c ≤ (57 : Int)) = false := by simp; omega
    have g5 : (c == 215) = false := by simp; omega
    have g6 : (c == 247) = false := by simp; omega
    have g7 : (c == 65533) = false := by simp; omega
    have g8 : decide ((8192 : Int) ≤ c) = false := by simp; omega
    have g9 : decide (c ≤ (8303 : Int)) = true := by simp; omega
    have g10 : decide ((12288 : Int) ≤ c) = false := by simp; omega
    have g11 : decide (c ≤ (12351 : Int)) = true := by simp; omega
    rw [show letterB c = true by unfold letterB; rw [if_pos (by omega)]; simp; omega]
    clear r0 r1 r2 r3
    go_enter Tryz.func99, Tryz.ntmps99
    go_wp2_with fail
    go_ret
    exact ⟨rfl, rfl⟩
  by_cases r4 : c ≤ 191
  · have g0 : decide (c < (192 : Int)) = true := by simp; omega
    have g1 : decide ((97 : Int) ≤ c) = true := by simp; omega
    have g2 : decide (c ≤ (122 : Int)) = false := by simp; omega
    have g3 : decide ((48 : Int) ≤ c) = true := by simp; omega
    have g4 : decide (c ≤ (57 : Int)) = false := by simp; omega
    have g5 : (c == 215) = false := by simp; omega
    have g6 : (c == 247) = false := by simp; omega
    have g7 : (c == 65533) = false := by simp; omega
    have g8 : decide ((8192 : Int) ≤ c) = false := by simp; omega
    have g9 : decide (c ≤ (8303 : Int)) = true := by simp; omega
    have g10 : decide ((12288 : Int) ≤ c) = false := by simp; omega
    have g11 : decide (c ≤ (12351 : Int)) = true := by simp; omega
    rw [show letterB c = false by unfold letterB; rw [if_pos (by omega)]; simp; omega]
    clear r0 r1 r2 r3 r4
    go_enter Tryz.func99, Tryz.ntmps99
    go_wp2_with fail
    go_ret
    exact ⟨rfl, rfl⟩
  by_cases r5 : c ≤ 214
  · have g0 : decide (c < (192 : Int)) = false := by simp; omega
    have g1 : decide ((97 : Int) ≤ c) = true := by simp; omega
    have g2 : decide (c ≤ (122 : Int)) = false := by simp; omega
    have g3 : decide ((48 : Int) ≤ c) = true := by simp; omega
    have g4 : decide (c ≤ (57 : Int)) = false := by simp; omega
    have g5 : (c == 215) = false := by simp; omega
    have g6 : (c == 247) = false := by simp; omega
    have g7 : (c == 65533) = false := by simp; omega
    have g8 : decide ((8192 : Int) ≤ c) = false := by simp; omega
    have g9 : decide (c ≤ (8303 : Int)) = true := by simp; omega
    have g10 : decide ((12288 : Int) ≤ c) = false := by simp; omega
    have g11 : decide (c ≤ (12351 : Int)) = true := by simp; omega
    rw [show letterB c = true by unfold letterB; rw [if_neg (by omega)]; simp; omega]
    clear r0 r1 r2 r3 r4 r5
    go_enter Tryz.func99, Tryz.ntmps99
    go_wp2_with fail
    go_ret
    exact ⟨rfl, rfl⟩
  by_cases r6 : c ≤ 215
  · have g0 : decide (c < (192 : Int)) = false := by simp; omega
    have g1 : decide ((97 : Int) ≤ c) = true := by simp; omega
    have g2 : decide (c ≤ (122 : Int)) = false := by simp; omega
    have g3 : decide ((48 : Int) ≤ c) = true := by simp; omega
    have g4 : decide (c ≤ (57 : Int)) = false := by simp; omega
    have g5 : (c == 215) = true := by simp; omega
    have g6 : (c == 247) = false := by simp; omega
    have g7 : (c == 65533) = false := by simp; omega
    have g8 : decide ((8192 : Int) ≤ c) = false := by simp; omega
    have g9 : decide (c ≤ (8303 : Int)) = true := by simp; omega
    have g10 : decide ((12288 : Int) ≤ c) = false := by simp; omega
    have g11 : decide (c ≤ (12351 : Int)) = true := by simp; omega
    rw [show letterB c = false by unfold letterB; rw [if_neg (by omega)]; simp; omega]
    clear r0 r1 r2 r3 r4 r5 r6
    go_enter Tryz.func99, Tryz.ntmps99
    go_wp2_with fail
    go_ret
    exact ⟨rfl, rfl⟩
  by_cases r7 : c ≤ 246
  · have g0 : decide (c < (192 : Int)) = false := by simp; omega
    have g1 : decide ((97 : Int) ≤ c) = true := by simp; omega
    have g2 : decide (c ≤ (122 : Int)) = false := by simp; omega
    have g3 : decide ((48 : Int) ≤ c) = true := by simp; omega
    have g4 : decide (c ≤ (57 : Int)) = false := by simp; omega
    have g5 : (c == 215) = false := by simp; omega
    have g6 : (c == 247) = false := by simp; omega
    have g7 : (c == 65533) = false := by simp; omega
    have g8 : decide ((8192 : Int) ≤ c) = false := by simp; omega
    have g9 : decide (c ≤ (8303 : Int)) = true := by simp; omega
    have g10 : decide ((12288 : Int) ≤ c) = false := by simp; omega
    have g11 : decide (c ≤ (12351 : Int)) = true := by simp; omega
    rw [show letterB c = true by unfold letterB; rw [if_neg (by omega)]; simp; omega]
    clear r0 r1 r2 r3 r4 r5 r6 r7
    go_enter Tryz.func99, Tryz.ntmps99
    go_wp2_with fail
    go_ret
    exact ⟨rfl, rfl⟩
  by_cases r8 : c ≤ 247
  · have g0 : decide (c < (192 : Int)) = false := by simp; omega
    have g1 : decide ((97 : Int) ≤ c) = true := by simp; omega
    have g2 : decide (c ≤ (122 : Int)) = false := by simp; omega
    have g3 : decide ((48 : Int) ≤ c) = true := by simp; omega
    have g4 : decide (c ≤ (57 : Int)) = false := by simp; omega
    have g5 : (c == 215) = false := by simp; omega
    have g6 : (c == 247) = true := by simp; omega
    have g7 : (c == 65533) = false := by simp; omega
    have g8 : decide ((8192 : Int) ≤ c) = false := by simp; omega
    have g9 : decide (c ≤ (8303 : Int)) = true := by simp; omega
    have g10 : decide ((12288 : Int) ≤ c) = false := by simp; omega
    have g11 : decide (c ≤ (12351 : Int)) = true := by simp; omega
    rw [show letterB c = false by unfold letterB; rw [if_neg (by omega)]; simp; omega]
    clear r0 r1 r2 r3 r4 r5 r6 r7 r8
    go_enter Tryz.func99, Tryz.ntmps99
    go_wp2_with fail
    go_ret
    exact ⟨rfl, rfl⟩
  by_cases r9 : c ≤ 8191
  · have g0 : decide (c < (192 : Int)) = false := by simp; omega
    have g1 : decide ((97 : Int) ≤ c) = true := by simp; omega
    have g2 : decide (c ≤ (122 : Int)) = false := by simp; omega
    have g3 : decide ((48 : Int) ≤ c) = true := by simp; omega
    have g4 : decide (c ≤ (57 : Int)) = false := by simp; omega
    have g5 : (c == 215) = false := by simp; omega
    have g6 : (c == 247) = false := by simp; omega
    have g7 : (c == 65533) = false := by simp; omega
    have g8 : decide ((8192 : Int) ≤ c) = false := by simp; omega
    have g9 : decide (c ≤ (8303 : Int)) = true := by simp; omega
    have g10 : decide ((12288 : Int) ≤ c) = false := by simp; omega
    have g11 : decide (c ≤ (12351 : Int)) = true := by simp; omega
    rw [show letterB c = true by unfold letterB; rw [if_neg (by omega)]; simp; omega]
    clear r0 r1 r2 r3 r4 r5 r6 r7 r8 r9
    go_enter Tryz.func99, Tryz.ntmps99
    go_wp2_with fail
    go_ret
    exact ⟨rfl, rfl⟩
  by_cases r10 : c ≤ 8303
  · have g0 : decide (c < (192 : Int)) = false := by simp; omega
    have g1 : decide ((97 : Int) ≤ c) = true := by simp; omega
    have g2 : decide (c ≤ (122 : Int)) = false := by simp; omega
    have g3 : decide ((48 : Int) ≤ c) = true := by simp; omega
    have g4 : decide (c ≤ (57 : Int)) = false := by simp; omega
    have g5 : (c == 215) = false := by simp; omega
    have g6 : (c == 247) = false := by simp; omega
    have g7 : (c == 65533) = false := by simp; omega
    have g8 : decide ((8192 : Int) ≤ c) = true := by simp; omega
    have g9 : decide (c ≤ (8303 : Int)) = true := by simp; omega
    have g10 : decide ((12288 : Int) ≤ c) = false := by simp; omega
    have g11 : decide (c ≤ (12351 : Int)) = true := by simp; omega
    rw [show letterB c = false by unfold letterB; rw [if_neg (by omega)]; simp; omega]
    clear r0 r1 r2 r3 r4 r5 r6 r7 r8 r9 r10
    go_enter Tryz.func99, Tryz.ntmps99
    go_wp2_with fail
    go_ret
    exact ⟨rfl, rfl⟩
  by_cases r11 : c ≤ 12287
  · have g0 : decide (c < (192 : Int)) = false := by simp; omega
    have g1 : decide ((97 : Int) ≤ c) = true := by simp; omega
    have g2 : decide (c ≤ (122 : Int)) = false := by simp; omega
    have g3 : decide ((48 : Int) ≤ c) = true := by simp; omega
    have g4 : decide (c ≤ (57 : Int)) = false := by simp; omega
    have g5 : (c == 215) = false := by simp; omega
    have g6 : (c == 247) = false := by simp; omega
    have g7 : (c == 65533) = false := by simp; omega
    have g8 : decide ((8192 : Int) ≤ c) = true := by simp; omega
    have g9 : decide (c ≤ (8303 : Int)) = false := by simp; omega
    have g10 : decide ((12288 : Int) ≤ c) = false := by simp; omega
    have g11 : decide (c ≤ (12351 : Int)) = true := by simp; omega
    rw [show letterB c = true by unfold letterB; rw [if_neg (by omega)]; simp; omega]
    clear r0 r1 r2 r3 r4 r5 r6 r7 r8 r9 r10 r11
    go_enter Tryz.func99, Tryz.ntmps99
    go_wp2_with fail
    go_ret
    exact ⟨rfl, rfl⟩
  by_cases r12 : c ≤ 12351
  · have g0 : decide (c < (192 : Int)) = false := by simp; omega
    have g1 : decide ((97 : Int) ≤ c) = true := by simp; omega
    have g2 : decide (c ≤ (122 : Int)) = false := by simp; omega
    have g3 : decide ((48 : Int) ≤ c) = true := by simp; omega
    have g4 : decide (c ≤ (57 : Int)) = false := by simp; omega
    have g5 : (c == 215) = false := by simp; omega
    have g6 : (c == 247) = false := by simp; omega
    have g7 : (c == 65533) = false := by simp; omega
    have g8 : decide ((8192 : Int) ≤ c) = true := by simp; omega
    have g9 : decide (c ≤ (8303 : Int)) = false := by simp; omega
    have g10 : decide ((12288 : Int) ≤ c) = true := by simp; omega
    have g11 : decide (c ≤ (12351 : Int)) = true := by simp; omega
    rw [show letterB c = false by unfold letterB; rw [if_neg (by omega)]; simp; omega]
    clear r0 r1 r2 r3 r4 r5 r6 r7 r8 r9 r10 r11 r12
    go_enter Tryz.func99, Tryz.ntmps99
    go_wp2_with fail
    go_ret
    exact ⟨rfl, rfl⟩
  by_cases r13 : c ≤ 65532
  · have g0 : decide (c < (192 : Int)) = false := by simp; omega
    have g1 : decide ((97 : Int) ≤ c) = true := by simp; omega
    have g2 : decide (c ≤ (122 : Int)) = false := by simp; omega
    have g3 : decide ((48 : Int) ≤ c) = true := by simp; omega
    have g4 : decide (c ≤ (57 : Int)) = false := by simp; omega
    have g5 : (c == 215) = false := by simp; omega
    have g6 : (c == 247) = false := by simp; omega
    have g7 : (c == 65533) = false := by simp; omega
    have g8 : decide ((8192 : Int) ≤ c) = true := by simp; omega
    have g9 : decide (c ≤ (8303 : Int)) = false := by simp; omega
    have g10 : decide ((12288 : Int) ≤ c) = true := by simp; omega
    have g11 : decide (c ≤ (12351 : Int)) = false := by simp; omega
    rw [show letterB c = true by unfold letterB; rw [if_neg (by omega)]; simp; omega]
    clear r0 r1 r2 r3 r4 r5 r6 r7 r8 r9 r10 r11 r12 r13
    go_enter Tryz.func99, Tryz.ntmps99
    go_wp2_with fail
    go_ret
    exact ⟨rfl, rfl⟩
  by_cases r14 : c ≤ 65533
  · have g0 : decide (c < (192 : Int)) = false := by simp; omega
    have g1 : decide ((97 : Int) ≤ c) = true := by simp; omega
    have g2 : decide (c ≤ (122 : Int)) = false := by simp; omega
    have g3 : decide ((48 : Int) ≤ c) = true := by simp; omega
    have g4 : decide (c ≤ (57 : Int)) = false := by simp; omega
    have g5 : (c == 215) = false := by simp; omega
    have g6 : (c == 247) = false := by simp; omega
    have g7 : (c == 65533) = true := by simp; omega
    have g8 : decide ((8192 : Int) ≤ c) = true := by simp; omega
    have g9 : decide (c ≤ (8303 : Int)) = false := by simp; omega
    have g10 : decide ((12288 : Int) ≤ c) = true := by simp; omega
    have g11 : decide (c ≤ (12351 : Int)) = false := by simp; omega
    rw [show letterB c = false by unfold letterB; rw [if_neg (by omega)]; simp; omega]
    clear r0 r1 r2 r3 r4 r5 r6 r7 r8 r9 r10 r11 r12 r13 r14
    go_enter Tryz.func99, Tryz.ntmps99
    go_wp2_with fail
    go_ret
    exact ⟨rfl, rfl⟩
  have g0 : decide (c < (192 : Int)) = false := by simp; omega
  have g1 : decide ((97 : Int) ≤ c) = true := by simp; omega
  have g2 : decide (c ≤ (122 : Int)) = false := by simp; omega
  have g3 : decide ((48 : Int) ≤ c) = true := by simp; omega
  have g4 : decide (c ≤ (57 : Int)) = false := by simp; omega
  have g5 : (c == 215) = false := by simp; omega
  have g6 : (c == 247) = false := by simp; omega
  have g7 : (c == 65533) = false := by simp; omega
  have g8 : decide ((8192 : Int) ≤ c) = true := by simp; omega
  have g9 : decide (c ≤ (8303 : Int)) = false := by simp; omega
  have g10 : decide ((12288 : Int) ≤ c) = true := by simp; omega
  have g11 : decide (c ≤ (12351 : Int)) = false := by simp; omega
  rw [show letterB c = true by unfold letterB; rw [if_neg (by omega)]; simp; omega]
  clear r0 r1 r2 r3 r4 r5 r6 r7 r8 r9 r10 r11 r12 r13 r14
  go_enter Tryz.func99, Tryz.ntmps99
  go_wp2_with fail
  go_ret
  exact ⟨rfl, rfl⟩
end Go.Proofs.YtjjlmkleidbmhaaGreatDoor
end
section
namespace Go.Proofs.YtjjlmkleidbmhaaGreatDoor
open Go.RowKit Go.Nst
set_option maxRecDepth 100000
set_option linter.unusedVariables false
set_option linter.unusedSimpArgs false

theorem putR_at {r : List Int} {k : Nat} {c : Int} (h : r[k]? = some c) : (putR r).drop (putR (r.take k)).length = Lib.encodeRune c ++ putR (r.drop (k + 1)) := by
  have hk := (List.getElem?_eq_some_iff.1 h).1
  have e : r = r.take k ++ c :: r.drop (k + 1) := by
    conv => lhs; rw [← List.take_append_drop k r, List.drop_eq_getElem_cons hk, (List.getElem?_eq_some_iff.1 h).2]
  conv => lhs; rw [show putR r = putR (r.take k) ++ (Lib.encodeRune c ++ putR (r.drop (k + 1))) by conv => lhs; rw [e, putR_append, putR_cons]]
  rw [List.drop_left]
theorem putR_take (r : List Int) (k : Nat) : (putR r).take (putR (r.take k)).length = putR (r.take k) := by
  conv => lhs; rw [show putR r = putR (r.take k) ++ putR (r.drop k) by rw [← putR_append, List.take_append_drop]]
  rw [List.take_left]
theorem putR_le (r : List Int) (k : Nat) : (putR (r.take k)).length ≤ (putR r).length := by
  rw [show putR r = putR (r.take k) ++ putR (r.drop k) by rw [← putR_append, List.take_append_drop], List.length_append]
  omega

set_option maxHeartbeats 4000000 in
theorem short_any (r : List Int) (w : World) (hS : (putR r).length ≤ 1000000) : Calls Tryz.prog 111 #[.string ⟨(putR r).toArray⟩] w fun e w' => e = .returned (.string ⟨(putR (r.take 32)).toArray⟩) ∧ Below w.heap.size w w' := by
  obtain ⟨s, hs⟩ : ∃ s : ByteArray, s = ⟨(putR r).toArray⟩ := ⟨_, rfl⟩
  have hbl : bl s = putR r := by rw [hs, bl_of]
  have hsz : s.size = (putR r).length := by rw [← bl_len, hbl]
  rw [← hs]
  have HS := Lib.hid hs
  have HBL := Lib.hid hbl
  have HSZ := Lib.hid hsz
  clear hs hbl
  have hsm : s.size ≤ 1000000 := by omega
  clear hsz
  go_enter Tryz.func111, Tryz.ntmps111
  go_wp2_with fail
  go_loopw [3] (fun v wr => ∃ (k pos : Nat), v = .int .i64 (k : Int) ∧ k ≤ r.length ∧ k ≤ 32 ∧ pos ≤ s.size ∧ wr.heap[w.heap.size]? = some (.stringIter s pos) ∧ Below w.heap.size w wr ∧ Hid (pos = (putR (r.take k)).length)) (fun _ wr => s.size - wr.iterPos w.heap.size)
  case atStart =>
    refine ⟨0, 0, rfl, by omega, by omega, by omega, ?_, bel_alloc (Below.refl _ _) _, Lib.hid (by simp [putR])⟩
    have := World.iter_heap w s 0
    simpa using this
  case round =>
    obtain ⟨k, pos, rfl, hk, hk32, hps, hit, hbw, HP⟩ := hrel
    have hsw : w.heap.size < wr.heap.size := (Array.getElem?_eq_some_iff.1 hit).1
    by_cases hlt : k < r.length
    · have hc : r[k]? = some r[k] := List.getElem?_eq_getElem hlt
      obtain ⟨c, hc0⟩ : ∃ c, r[k] = c := ⟨_, rfl⟩
      rw [hc0] at hc
      have hd := putR_at hc
      rw [← HP.out] at hd
      have hp : pos < s.size := by
        rcases Nat.lt_or_ge pos s.size with h | h
        · exact h
        · rw [List.drop_of_length_le (by rw [← HSZ.out]; exact h)] at hd
          exact absurd hd.symm (enc_ne _ _)
      have hnx : ∀ ty, (Instr.next (.pointer (some ⟨w.heap.size, 0, none⟩)) true ty).run Tryz.prog wr = _ := fun ty => Lib.run_next_any_at wr w.heap.size s pos ty hit hp
      have hdec : Utf8.decode s pos = (normR c, (Lib.encodeRune c).length) := by
        rw [decode_bl s pos hp, HBL.out, hd, first_enc]
      rw [hdec] at hnx
      have hel := enc_len c
      have hnext : pos + (Lib.encodeRune c).length = (putR (r.take (k + 1))).length := by
        rw [HP.out, List.take_add_one, hc, putR_append, List.length_append]
        simp [putR]
      have hle2 := putR_le r (k + 1)
      rw [← hnext, ← HSZ.out] at hle2
      have HN := Lib.hid hnext
      clear hd hc hdec hnext hc0
      simp only at hnx
      generalize (Lib.encodeRune c).length = el at *
      generalize normR c = nc at *
      have hit2 := Lib.iterAt_heap wr w.heap.size s pos (pos + el) hit
      have hbw2 := Lib.below_iterAt hbw (k := w.heap.size) (by omega) s (pos + el)
      by_cases h32 : k = 32
      · have d32 : ((k : Int) == 32) = true := by simp; omega
        have HV : Hid (Value.string (s.extract 0 pos) = Value.string ⟨(putR (r.take 32)).toArray⟩) := Lib.hid (by rw [str_upto, HBL.out, HP.out, putR_take, h32])
        clear h32
        go_wp2_with fail
        go_ret
        refine ⟨?_, hbw2⟩
        rw [← HV.out]
        simp
      · have d32 : ((k : Int) == 32) = false := by simp; omega
        have hk33 : k + 1 ≤ 32 := by omega
        clear h32
        go_wp2_with fail
        go_roundw
        case rel => exact ⟨k + 1, pos + el, by go_num, by omega, by omega, hle2, hit2, hbw2, HN⟩
        case measure =>
          simp only [World.iterPos, hit2, hit]
          omega
    · have hpe : ¬ pos < s.size := by rw [HP.out, List.take_of_length_le (by omega), HSZ.out]; omega
      have hnx : ∀ ty, (Instr.next (.pointer (some ⟨w.heap.size, 0, none⟩)) true ty).run Tryz.prog wr = _ := fun ty => Lib.run_next_end_at wr w.heap.size s pos ty hit hpe
      have HV : Hid (s = ⟨(putR (r.take 32)).toArray⟩) := Lib.hid (by rw [HS.out, List.take_of_length_le (by omega)])
      go_wp2_with fail
      go_ret
      rw [← HV.out]
      exact ⟨rfl, hbw⟩

theorem notLetter_gives (w : World) : PredAtRunes Tryz.prog 109 #[] (fun x => !letterB (x : Int)) w := by
  intro W x hx _
  unfold FnGives
  have HL := Lib.hid (letter_any (x : Int) W (by omega) (by omega))
  show Calls Tryz.prog 109 #[.int .i32 (x : Int)] W fun e w' => e = .returned (.bool (!letterB (x : Int))) ∧ ∃ q, w' = W.drewN q
  generalize letterB (x : Int) = b at *
  go_enter Tryz.func109, Tryz.ntmps109
  go_wp2_with fail
  (with_reducible refine (HL.out).mono ?_)
  rintro e w1 ⟨rfl, rfl⟩
  go_wp2_with fail
  go_ret
  exact ⟨rfl, 0, rfl⟩

theorem le_sum {l : List Nat} {x : Nat} (h : x ∈ l) : x ≤ l.sum := by
  induction l with
  | nil => simp at h
  | cons a t ih =>
    simp only [List.mem_cons] at h
    rw [List.sum_cons]
    rcases h with rfl | h
    · omega
    · have := ih h; omega
set_option maxHeartbeats 4000000 in
theorem words_any (l : List UInt8) (w : World) (hS : l.length ≤ 100000) : Calls Tryz.prog 89 #[.string ⟨l.toArray⟩] w (RetOs w (wordsL l)) := by
  have HF := Lib.hid (fold_any5 ⟨l.toArray⟩ w (by rw [size_of]; omega))
  rw [bl_of] at HF
  have hok := foldC_ok _ (runes_ok l)
  have hlen : ((runesI l).map foldC).length ≤ l.length := by rw [List.length_map]; exact runesI_le l
  unfold foldT at HF
  unfold wordsL wordsR
  generalize (runesI l).map foldC = rs at *
  have HOK := Lib.hid hok
  have hpl := putR_len rs
  have HFF := Lib.hid (fun W => Tryz.strings_FieldsFunc_runes 109 #[] (enters_of Tryz.func109 (by kernel_rfl) rfl) (fun x => !letterB (x : Int)) ⟨(putR rs).toArray⟩ W (by rw [size_of]; omega) (notLetter_gives W))
  rw [fields_runs rs hok] at HFF
  have hrl := (runs_len rs []).2
  have hrok := runs_ok rs [] (by intro x hx; simp at hx) hok
  have hrp : ∀ r ∈ runsF [] rs, (putR r).length ≤ 1000000 := by
    intro r hr
    have h1 := putR_len r
    have h2 := (runs_len rs []).1
    have h3 : r.length ≤ ((runsF [] rs).map List.length).sum := le_sum (List.mem_map_of_mem hr)
    simp at h2
    omega
  have HRP := Lib.hid hrp
  clear hrp hok hrok
  generalize runsF [] rs = rr at *
  rw [List.map_map] at HFF
  rw [List.length_map] at HFF
  have hrr : rr.length ≤ 100000 := by simp at hrl; omega
  have HE : Hid ((rr.map fun r => putR (r.take 32)) = (rr.map (·.take 32)).map putR) := Lib.hid (by rw [List.map_map]; rfl)
  rw [← HE.out]
  generalize (putR rs) = ps at *
  clear hrl
  go_enter Tryz.func89, Tryz.ntmps89
  go_wp2_with fail
  (with_reducible refine (HF.out).mono ?_)
  rintro e w1 ⟨rfl, B1⟩
  go_wp2_with fail
  (with_reducible refine (HFF.out w1).mono ?_)
  rintro e w2 ⟨A2, rfl, hA2, hO2, hb2⟩
  have B2 := bel_step B1 hb2
  have hO2 : Os w2 w.heap.size (some ⟨A2, 0, none⟩) rr.length rr.length (mixK (fun r => putR (r.take 32)) putR rr 0) := by
    rw [mixK_zero]
    refine own_mono (base := w1.heap.size) ?_ B1.size
    unfold sv
    rw [List.map_map]
    exact hO2
  clear hb2
  go_wp2_with fail
  go_loopw [11] (fun i wr => ∃ k : Nat, i = .int .i64 (k : Int) ∧ k ≤ rr.length ∧ Os wr w.heap.size (some ⟨A2, 0, none⟩) rr.length rr.length (mixK (fun r => putR (r.take 32)) putR rr k) ∧ Below w.heap.size w wr) (fun i _ => rr.length - (intOf i).toNat)
  case atStart => exact ⟨0, rfl, by omega, hO2, B2⟩
  case round =>
    obtain ⟨k, rfl, hk, hO, hbw⟩ := hrel
    by_cases hlt : k < rr.length
    · have hr : rr[k]? = some rr[k] := List.getElem?_eq_getElem hlt
      obtain ⟨r, hr0⟩ : ∃ r, rr[k] = r := ⟨_, rfl⟩
      rw [hr0] at hr
      obtain ⟨x, b, off, e1, hx, _, hc⟩ := Ss.at hO.ss hlt
      have hx2 := hx.out
      rw [mixK_get _ _ hr] at hx2
      injection hx2 with hx2
      subst hx2
      injection e1 with e1
      injection e1 with e3 e4
      subst e3
      subst e4
      rw [Nat.zero_add] at hc
      obtain ⟨g, eg, hg1, hg2, hfz⟩ := own_where hO (by omega)
      injection eg with eg
      injection eg with eg
      subst eg
      have hf1 := hfz k
      have HSH := Lib.hid (short_any r wr (HRP.out r (List.mem_of_getElem? hr)))
      have HSET := Lib.hid (fun W (h : Os W w.heap.size (some ⟨A2, 0, none⟩) rr.length rr.length (mixK (fun r => putR (r.take 32)) putR rr k)) => own_set h rfl (g := A2) (k := k) (.string ⟨(putR (r.take 32)).toArray⟩))
      have hset2 : (sv (mixK (fun r => putR (r.take 32)) putR rr k)).set k (.string ⟨(putR (r.take 32)).toArray⟩) = sv (mixK (fun r => putR (r.take 32)) putR rr (k + 1)) := by
        rw [← mixK_set _ _ hr]; simp [sv, List.map_set]
      rw [hset2] at HSET
      clear hset2 hfz hx hr hr0
      have hlt3 : A2 < wr.heap.size := hg2
      have hk3 : (k : Int) < (rr.length : Int) := by omega
      generalize putR r = pr at *
      generalize putR (r.take 32) = pq at *
      go_wp2_with fail
      (with_reducible refine (HSH.out).mono ?_)
      rintro e w3 ⟨rfl, hb3⟩
      have hc3 : w3.cell? ⟨A2, k, none⟩ = some (.string ⟨pr.toArray⟩) := (hb3.cell (p := ⟨A2, k, none⟩) hlt3).trans hc
      have hf3 : w3.frozen? ⟨A2, k, none⟩ = false := (hb3.frozen (p := ⟨A2, k, none⟩) hlt3).trans hf1
      have hO3 := own_below hO hb3
      have B3 := bel_step hbw hb3
      go_wp2_with fail
      go_roundw
      case rel => exact ⟨k + 1, by go_num, by omega, HSET.out _ hO3, B3.setCell (p := ⟨A2, k, none⟩) hg1 _⟩
      case measure => simp [intOf]; omega
    · rw [mixK_all _ _ _ (by omega)] at hO
      go_wp2_with fail
      go_ret
      exact ⟨_, _, _, rfl, hO, hbw⟩
end Go.Proofs.YtjjlmkleidbmhaaGreatDoor
end
section
namespace Go.Proofs.YtjjlmkleidbmhaaGreatDoor
open Go.RowKit Go.Nst
set_option maxRecDepth 100000
set_option linter.unusedVariables false
set_option linter.unusedSimpArgs false

set_option maxHeartbeats 1000000 in
theorem isWord_any (l : List UInt8) (w : World) (hS : l.length ≤ 100000) : Calls Tryz.prog 71 #[.string ⟨l.toArray⟩] w fun e w' => e = .returned (.bool (wordB l)) ∧ Below w.heap.size w w' := by
  have HW := Lib.hid (words_any l w hS)
  have HB : Hid (wordB l = (wordsL l == [l])) := rfl
  generalize wordsL l = ws at *
  by_cases h1 : ws.length = 1
  · obtain ⟨x, hx⟩ : ∃ x, ws = [x] := by
      match ws, h1 with
      | [x], _ => exact ⟨x, rfl⟩
    subst hx
    have HB : Hid (wordB l = (x == l)) := Lib.hid (by rw [HB.out]; simp)
    clear h1
    go_enter Tryz.func71, Tryz.ntmps71
    go_wp2_with fail
    (with_reducible refine (HW.out).mono ?_)
    rintro e w1 ⟨A1, n1, c1, rfl, ho1, B1⟩
    have hn1 : 1 = n1 := by have := ho1.ss.len; simpa using this
    subst hn1
    obtain ⟨y, b, off, rfl, hy, _, hc⟩ := Ss.at ho1.ss (show 0 < 1 by omega)
    have hy := hy.out
    simp at hy
    subst hy
    rw [Nat.add_zero] at hc
    go_wp2_with fail
    go_ret
    refine ⟨?_, B1⟩
    rw [HB.out]
    rfl
  · have HB : Hid (wordB l = false) := Lib.hid (by
      rw [HB.out, beq_eq_false_iff_ne]
      intro e
      exact h1 (by rw [e]; rfl))
    go_enter Tryz.func71, Tryz.ntmps71
    go_wp2_with fail
    (with_reducible refine (HW.out).mono ?_)
    rintro e w1 ⟨A1, n1, c1, rfl, ho1, B1⟩
    have hn1 := ho1.ss.len
    have d1 : ((n1 : Int) == 1) = false := by simp; omega
    clear h1 hn1 ho1
    go_wp2_with fail
    go_ret
    exact ⟨by rw [HB.out]; rfl, B1⟩

/-- the words that are still to come: the letters just ahead, and the rest -/
def wordsG (cur rest : List Int) : List (List UInt8) := ((runsF cur rest).map (·.take 32)).map putR
theorem wordsG_letter {cur rest : List Int} {k : Nat} {c : Int} (hc : rest[k]? = some c) (hl : letterB c = true) : wordsG cur (rest.drop k) = wordsG (cur ++ [c]) (rest.drop (k + 1)) := by
  unfold wordsG
  rw [List.drop_eq_getElem_cons (List.getElem?_eq_some_iff.1 hc).1, (List.getElem?_eq_some_iff.1 hc).2]
  simp only [runsF]
  rw [if_pos hl]
theorem wordsG_other {cur rest : List Int} {k : Nat} (hc : rest.length ≤ k ∨ ∃ c, rest[k]? = some c ∧ letterB c = false) (hne : cur ≠ []) : wordsG cur (rest.drop k) = putR (cur.take 32) :: wordsG [] (rest.drop (k + 1)) := by
  unfold wordsG
  rcases hc with h | ⟨c, hc, hl⟩
  · rw [List.drop_of_length_le h, List.drop_of_length_le (by omega)]
    simp [runsF, hne]
  · rw [List.drop_eq_getElem_cons (List.getElem?_eq_some_iff.1 hc).1, (List.getElem?_eq_some_iff.1 hc).2]
    simp only [runsF]
    rw [hl]
    simp [hne]
theorem wordsG_none {rest : List Int} {k : Nat} (hc : rest.length ≤ k ∨ ∃ c, rest[k]? = some c ∧ letterB c = false) : wordsG [] (rest.drop k) = wordsG [] (rest.drop (k + 1)) := by
  unfold wordsG
  rcases hc with h | ⟨c, hc, hl⟩
  · rw [List.drop_of_length_le h, List.drop_of_length_le (by omega)]
  · rw [List.drop_eq_getElem_cons (List.getElem?_eq_some_iff.1 hc).1, (List.getElem?_eq_some_iff.1 hc).2]
    simp only [runsF]
    rw [hl]
    simp
theorem wordsG_end {rest : List Int} {k : Nat} (h : rest.length ≤ k) : wordsG [] (rest.drop k) = [] := by
  unfold wordsG
  rw [List.drop_of_length_le h]
  simp [runsF]
theorem take_more {cur : List Int} {c : Int} (h : (cur.take 32).length < 32) : (cur ++ [c]).take 32 = cur.take 32 ++ [c] := by
  rw [List.length_take] at h
  rw [List.take_of_length_le (by simp; omega), List.take_of_length_le (by omega)]
theorem take_full {cur : List Int} {c : Int} (h : ¬ (cur.take 32).length < 32) : (cur ++ [c]).take 32 = cur.take 32 := by
  rw [List.length_take] at h
  rw [List.take_append_of_le_length (by omega)]
theorem sv_one (l : List (List UInt8)) : ∀ u ∈ sv l, u.oneCell' = true := by
  intro u hu
  simp only [sv, List.mem_map] at hu
  obtain ⟨x, _, rfl⟩ := hu
  rfl

set_option maxHeartbeats 4000000 in
theorem refWords_any (l : List UInt8) (w : World) (hS : l.length ≤ 20000) : Calls Tryz.prog 80 #[.string ⟨l.toArray⟩] w (RetOs w (wordsL l)) := by
  have HF := Lib.hid (refFold_any5 ⟨l.toArray⟩ w (by rw [size_of]; omega))
  rw [bl_of] at HF
  have hok := foldC_ok _ (runes_ok l)
  have hlen : ((runesI l).map foldC).length ≤ l.length := by rw [List.length_map]; exact runesI_le l
  obtain ⟨tot, htot⟩ : ∃ tot, wordsL l = tot := ⟨_, rfl⟩
  have HT : Hid (tot = [] ++ wordsG [] (((runesI l).map foldC).drop 0)) := Lib.hid (by rw [← htot]; rfl)
  rw [htot]
  clear htot
  unfold foldT at HF
  generalize (runesI l).map foldC = rs at *
  have hpl := putR_len rs
  have HR := Lib.hid (fun W => refRunes_any ⟨(putR rs).toArray⟩ W (by rw [size_of]; omega))
  rw [bl_of, runes_put_ok rs hok] at HR
  have HOK := Lib.hid hok
  clear hok
  generalize putR rs = ps at *
  go_enter Tryz.func80, Tryz.ntmps80
  go_wp2_with fail
  (with_reducible refine (HF.out).mono ?_)
  rintro e w1 ⟨rfl, B1⟩
  go_wp2_with fail
  (with_reducible refine (HR.out w1).mono ?_)
  rintro e w2 ⟨A1, n1, c1, rfl, ho1, hb2⟩
  have B2 := bel_step B1 hb2
  have hR := ho1.rn
  have hn1 := hR.len
  clear hb2 ho1
  go_wp2_with fail
  go_loopw [4, 5, 6] (fun v y i wr => ∃ (k m q : Nat) (A4 : Option Addr) (c4 : Nat) (A5 : Option Addr) (c5 : Nat) (out : List (List UInt8)) (cur : List Int), v = .slice A4 m c4 ∧ y = .slice A5 q c5 ∧ i = .int .i64 (k : Int) ∧ k ≤ n1 + 1 ∧ m ≤ k ∧ Os wr w2.heap.size A4 m c4 out ∧ On wr w2.heap.size A5 q c5 (cur.take 32) ∧ Below w2.heap.size w2 wr ∧ Hid (tot = out ++ wordsG cur (rs.drop k)) ∧ Hid (n1 < k → cur = []) ∧ Hid (I32 (cur.take 32))) (fun _ _ i _ => n1 + 1 - (intOf i).toNat)
  case atStart => exact ⟨0, 0, 0, none, 0, none, 0, [], [], rfl, rfl, rfl, by omega, by omega, World.ownsRow_nil _ _ _ _, On.nil, Below.refl _ _, HT, Lib.hid (fun _ => rfl), Lib.hid (by intro z hz; simp at hz)⟩
  case round =>
    obtain ⟨k, m, q, A4, c4, A5, c5, out, cur, rfl, rfl, rfl, hk, hmk, hO, hC, hbw, HR2, HZ, HI⟩ := hrel
    have hbs := hbw.size
    have hq := hC.rn.len
    have hq32 : q ≤ 32 := by rw [← hq, List.length_take]; omega
    by_cases hin : k ≤ n1
    · have hd1 : decide ((k : Int) ≤ (n1 : Int)) = true := by simp; omega
      by_cases hlt : k < n1
      · obtain ⟨z, b, off, rfl, hz, hb, hc⟩ := Rn.at (hR.below hbw) hlt
        have hzb := HOK.out z (List.mem_of_getElem? hz.out)
        have HL := Lib.hid (refLetter_any z wr (by omega) (by omega))
        cases hl : letterB z with
        | true =>
          have HN := Lib.hid (HR2.out.trans (congrArg (out ++ ·) (wordsG_letter hz.out hl)))
          rw [hl] at HL
          clear hl
          by_cases hq1 : q < 32
          · have HTM := Lib.hid (take_more (cur := cur) (c := z) (by omega))
            have hC3 := hC.below (bel_alloc (Below.refl _ _) (.cells #[.int .i32 z] 21))
            have hx3 := Rn.const wr [z] #[.int .i32 z] 21 (0, 0) 1 rfl rfl
            have hO3 := own_below hO (bel_alloc (Below.refl _ _) (.cells #[.int .i32 z] 21))
            have hap := own_apart hO3 hC3 (by decide)
            have HAP := Lib.hid hap
            clear hap
            go_wp2_with fail
            (with_reducible refine (HL.out).mono ?_)
            rintro e w3 ⟨rfl, rfl⟩
            go_wp2_with (at_builtin; refine wpList_app _ iRunes rfl rfl rfl hC3 rfl hx3 (rv_one _) (by unfold maxLen; omega) (by omega) (by simp; omega) ?_; intro A' c' w' h2 h3 _)
            have h2' : On w' w2.heap.size A' (q + 1) c' ((cur ++ [z]).take 32) := by rw [HTM.out]; unfold On rv; rw [List.map_append]; exact h2
            have h4 : Os w' w2.heap.size A4 m c4 out := own_only hO3 h3 HAP.out
            have B4 : Below w2.heap.size w2 w' := (hbw.alloc hbs _).trans ((Below.refl _ _).grown h3 (by simp; omega) (fun k hk => (World.ownsRow.lt hC3 k hk).1))
            go_roundw
            case rel => exact ⟨k + 1, m, q + 1, A4, c4, A', c', out, cur ++ [z], rfl, rfl, by go_num, by omega, by omega, h4, h2', B4, HN, Lib.hid (fun h => by omega), Lib.hid (by rw [HTM.out]; intro y hy; simp only [List.mem_append, List.mem_singleton] at hy; rcases hy with hy | rfl; (· exact HI.out y hy); (· omega))⟩
            case measure => simp [intOf]; omega
          · have HTF := Lib.hid (take_full (cur := cur) (c := z) (by omega))
            go_wp2_with fail
            (with_reducible refine (HL.out).mono ?_)
            rintro e w3 ⟨rfl, rfl⟩
            go_wp2_with fail
            go_roundw
            case rel => exact ⟨k + 1, m, q, A4, c4, A5, c5, out, cur ++ [z], rfl, rfl, by go_num, by omega, by omega, hO, by rw [HTF.out]; exact hC, hbw, HN, Lib.hid (fun h => by omega), by rw [HTF.out]; exact HI⟩
            case measure => simp [intOf]; omega
        | false =>
          have hoth : rs.length ≤ k ∨ ∃ c, rs[k]? = some c ∧ letterB c = false := .inr ⟨z, hz.out, hl⟩
          rw [hl] at HL
          clear hl
          by_cases hq0 : 0 < q
          · have hne : cur ≠ [] := by
              intro e
              rw [e] at hq
              simp at hq
              omega
            have HN := Lib.hid (HR2.out.trans (congrArg (out ++ ·) (wordsG_other hoth hne)))
            have HPU := Lib.hid (refPut5_any A5 q c5 (cur.take 32) wr hC.rn HI.out (by omega))
            generalize putR (cur.take 32) = px at *
            clear hne hoth hq
            go_wp2_with fail
            (with_reducible refine (HL.out).mono ?_)
            rintro e w3 ⟨rfl, rfl⟩
            go_wp2_with fail
            (with_reducible refine (HPU.out).mono ?_)
            rintro e w3 ⟨rfl, hb3⟩
            have hO3 := own_below (own_below hO hb3) (bel_alloc (Below.refl _ _) (.cells #[.string ⟨px.toArray⟩] 9))
            have hx3 := Ss.const w3 [px] #[.string ⟨px.toArray⟩] 9 (0, 0) 1 rfl rfl
            have B3 := bel_step hbw hb3
            have hs3 := B3.size
            clear hb3
            go_wp2_with (at_builtin; refine wpList_app _ iStrs rfl rfl rfl hO3 rfl hx3 (sv_one _) (by unfold maxLen; omega) (by omega) (by simp; omega) ?_; intro A' c' w' h2 h3 _)
            have h2' : Os w' w2.heap.size A' (m + 1) c' (out ++ [px]) := by unfold Os sv; rw [List.map_append]; exact h2
            have B4 : Below w2.heap.size w2 w' := (B3.alloc hs3 _).trans ((Below.refl _ _).grown h3 (by simp; omega) (fun k hk => (World.ownsRow.lt hO3 k hk).1))
            go_roundw
            case rel => exact ⟨k + 1, m + 1, 0, A', c', none, 0, out ++ [px], [], rfl, rfl, by go_num, by omega, by omega, h2', On.nil, B4, Lib.hid (by rw [HN.out]; simp), Lib.hid (fun _ => rfl), Lib.hid (by intro z hz; simp at hz)⟩
            case measure => simp [intOf]; omega
          · have hcur : cur = [] := by
              have : (cur.take 32).length = 0 := by omega
              rw [List.length_take] at this
              exact List.eq_nil_of_length_eq_zero (by omega)
            have HCU := Lib.hid hcur
            have HN := Lib.hid (HR2.out.trans (by rw [hcur, wordsG_none hoth]))
            clear hcur hoth
            go_wp2_with fail
            (with_reducible refine (HL.out).mono ?_)
            rintro e w3 ⟨rfl, rfl⟩
            go_wp2_with fail
            go_roundw
            case rel => exact ⟨k + 1, m, q, A4, c4, A5, c5, out, cur, rfl, rfl, by go_num, by omega, by omega, hO, hC, hbw, Lib.hid (by rw [HCU.out]; exact HN.out), Lib.hid (fun _ => HCU.out), HI⟩
            case measure => simp [intOf]; omega
      · have hoth : rs.length ≤ k ∨ ∃ c, rs[k]? = some c ∧ letterB c = false := .inl (by omega)
        by_cases hq0 : 0 < q
        · have hne : cur ≠ [] := by
            intro e
            rw [e] at hq
            simp at hq
            omega
          have HN := Lib.hid (HR2.out.trans (congrArg (out ++ ·) (wordsG_other hoth hne)))
          have HPU := Lib.hid (refPut5_any A5 q c5 (cur.take 32) wr hC.rn HI.out (by omega))
          generalize putR (cur.take 32) = px at *
          clear hne hoth hq
          go_wp2_with fail
          (with_reducible refine (HPU.out).mono ?_)
          rintro e w3 ⟨rfl, hb3⟩
          have hO3 := own_below (own_below hO hb3) (bel_alloc (Below.refl _ _) (.cells #[.string ⟨px.toArray⟩] 9))
          have hx3 := Ss.const w3 [px] #[.string ⟨px.toArray⟩] 9 (0, 0) 1 rfl rfl
          have B3 := bel_step hbw hb3
          have hs3 := B3.size
          clear hb3
          go_wp2_with (at_builtin; refine wpList_app _ iStrs rfl rfl rfl hO3 rfl hx3 (sv_one _) (by unfold maxLen; omega) (by omega) (by simp; omega) ?_; intro A' c' w' h2 h3 _)
          have h2' : Os w' w2.heap.size A' (m + 1) c' (out ++ [px]) := by unfold Os sv; rw [List.map_append]; exact h2
          have B4 : Below w2.heap.size w2 w' := (B3.alloc hs3 _).trans ((Below.refl _ _).grown h3 (by simp; omega) (fun k hk => (World.ownsRow.lt hO3 k hk).1))
          go_roundw
          case rel => exact ⟨k + 1, m + 1, 0, A', c', none, 0, out ++ [px], [], rfl, rfl, by go_num, by omega, by omega, h2', On.nil, B4, Lib.hid (by rw [HN.out]; simp), Lib.hid (fun _ => rfl), Lib.hid (by intro z hz; simp at hz)⟩
          case measure => simp [intOf]; omega
        · have hcur : cur = [] := by
            have : (cur.take 32).length = 0 := by omega
            rw [List.length_take] at this
            exact List.eq_nil_of_length_eq_zero (by omega)
          have HCU := Lib.hid hcur
          have HN := Lib.hid (HR2.out.trans (by rw [hcur, wordsG_none hoth]))
          clear hcur hoth
          go_wp2_with fail
          go_roundw
          case rel => exact ⟨k + 1, m, q, A4, c4, A5, c5, out, cur, rfl, rfl, by go_num, by omega, by omega, hO, hC, hbw, Lib.hid (by rw [HCU.out]; exact HN.out), Lib.hid (fun _ => HCU.out), HI⟩
          case measure => simp [intOf]; omega
    · have HE : Hid (tot = out) := Lib.hid (by rw [HR2.out, HZ.out (by omega), wordsG_end (by omega)]; simp)
      go_wp2_with fail
      go_ret
      rw [HE.out]
      exact ⟨A4, m, c4, rfl, own_mono hO B2.size, bel_step B2 hbw⟩
end Go.Proofs.YtjjlmkleidbmhaaGreatDoor
end
end
