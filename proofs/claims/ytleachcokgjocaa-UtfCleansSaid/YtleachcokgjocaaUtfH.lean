/-
  Blank, control, fold of a rune: the code's and the reference's.
-/
import Derived.Test.YtleachcokgjocaaUtfG
namespace Go.Proofs.Ytleachcokgjocaa
open Go.RowKit Go.Nst
set_option maxRecDepth 100000
set_option linter.unusedVariables false
set_option linter.unusedSimpArgs false

theorem blank_cases {c : Int} (h : blankB c = true) : c = 9 ∨ c = 10 ∨ c = 13 ∨ c = 32 ∨ c = 160 ∨ c = 8232 ∨ c = 8233 ∨ c = 12288 := by
  simp [blankB] at h
  omega
theorem blank_not {c : Int} (h : blankB c = false) : ((c == 9) = false ∧ (c == 10) = false ∧ (c == 13) = false ∧ (c == 32) = false) ∧ (c == 160) = false ∧ (c == 8232) = false ∧ (c == 8233) = false ∧ (c == 12288) = false := by
  simp [blankB] at h
  simp
  omega
set_option maxHeartbeats 1000000 in
theorem blank_yes (c : Int) (w : World) (h : blankB c = true) : Calls Try.prog 16 #[.int .i32 c] w fun e w' => e = .returned (.bool true) ∧ w = w' := by
  rcases blank_cases h with rfl | rfl | rfl | rfl | rfl | rfl | rfl | rfl
  all_goals
    clear h
    go_enter Try.func16, Try.ntmps16
    go_wp2_with fail
    go_ret
    exact ⟨rfl, rfl⟩
theorem blank_no (c : Int) (w : World) (h : blankB c = false) : Calls Try.prog 16 #[.int .i32 c] w fun e w' => e = .returned (.bool false) ∧ w = w' := by
  obtain ⟨⟨h1, h2, h3, h4⟩, h5, h6, h7, h8⟩ := blank_not h
  clear h
  go_enter Try.func16, Try.ntmps16
  go_wp2_with fail
  go_ret
  exact ⟨rfl, rfl⟩
set_option maxHeartbeats 1000000 in
theorem refBlank_yes (c : Int) (w : World) (h : blankB c = true) : Calls Try.prog 17 #[.int .i32 c] w fun e w' => e = .returned (.bool true) ∧ w = w' := by
  rcases blank_cases h with rfl | rfl | rfl | rfl | rfl | rfl | rfl | rfl
  all_goals
    clear h
    go_enter Try.func17, Try.ntmps17
    go_wp2_with fail
    go_ret
    exact ⟨rfl, rfl⟩
theorem refBlank_no (c : Int) (w : World) (h : blankB c = false) : Calls Try.prog 17 #[.int .i32 c] w fun e w' => e = .returned (.bool false) ∧ w = w' := by
  obtain ⟨⟨h1, h2, h3, h4⟩, h5, h6, h7, h8⟩ := blank_not h
  clear h
  go_enter Try.func17, Try.ntmps17
  go_wp2_with fail
  go_ret
  exact ⟨rfl, rfl⟩
theorem ctrl_split {c : Int} : (c < 32 ∧ ctrlB c = true) ∨ (decide (c < 32) = false ∧ decide (127 ≤ c) = false ∧ ctrlB c = false) ∨ (decide (c < 32) = false ∧ decide (127 ≤ c) = true ∧ decide (c ≤ 159) = true ∧ ctrlB c = true) ∨ (decide (c < 32) = false ∧ decide (127 ≤ c) = true ∧ decide (c ≤ 159) = false ∧ ctrlB c = false) := by
  simp [ctrlB]
  omega
theorem control_any (c : Int) (w : World) : Calls Try.prog 30 #[.int .i32 c] w fun e w' => e = .returned (.bool (ctrlB c)) ∧ w = w' := by
  rcases ctrl_split (c := c) with ⟨h1, h2⟩ | ⟨h1, h3, h2⟩ | ⟨h1, h3, h4, h2⟩ | ⟨h1, h3, h4, h2⟩
  all_goals
    rw [h2]
    clear h2
    go_enter Try.func30, Try.ntmps30
    go_wp2_with fail
    go_ret
    exact ⟨rfl, rfl⟩

def betB (c a b : Int) : Bool := decide (a ≤ c) && decide (c ≤ b)
theorem betB_yes {c a b : Int} (h : a ≤ c ∧ c ≤ b) : betB c a b = true := by simp [betB]; exact h
theorem betB_no {c a b : Int} (h : c < a ∨ b < c) : betB c a b = false := by
  rw [Bool.eq_false_iff]
  simp [betB]
  omega
theorem between_any (c a b : Int) (w : World) : Calls Try.prog 38 #[.int .i32 c, .int .i32 a, .int .i32 b] w fun e w' => e = .returned (.bool (betB c a b)) ∧ w = w' := by
  by_cases h1 : a ≤ c
  · by_cases h2 : c ≤ b
    · rw [betB_yes ⟨h1, h2⟩]
      go_enter Try.func38, Try.ntmps38
      go_wp2_with fail
      go_ret
      simp [h2]
    · rw [betB_no (by omega)]
      go_enter Try.func38, Try.ntmps38
      go_wp2_with fail
      go_ret
      simp [h2]
  · rw [betB_no (by omega)]
    go_enter Try.func38, Try.ntmps38
    go_wp2_with fail
    go_ret
    simp

theorem foldC_32 {c : Int} (h : (65 ≤ c ∧ c ≤ 90) ∨ (192 ≤ c ∧ c ≤ 222 ∧ c ≠ 215) ∨ (913 ≤ c ∧ c ≤ 937 ∧ c ≠ 930) ∨ (1040 ≤ c ∧ c ≤ 1071)) : foldC c = c + 32 := by unfold foldC; rw [if_pos h]
theorem foldC_80 {c : Int} (h : 1024 ≤ c ∧ c ≤ 1039) : foldC c = c + 80 := by unfold foldC; rw [if_neg (by omega), if_pos h]
theorem foldC_0 {c : Int} (h : ¬ ((65 ≤ c ∧ c ≤ 90) ∨ (192 ≤ c ∧ c ≤ 222 ∧ c ≠ 215) ∨ (913 ≤ c ∧ c ≤ 937 ∧ c ≠ 930) ∨ (1040 ≤ c ∧ c ≤ 1071))) (h2 : ¬ (1024 ≤ c ∧ c ≤ 1039)) : foldC c = c := by unfold foldC; rw [if_neg h, if_neg h2]
/-- where a rune lies -/
theorem fold_split (c : Int) : c = 215 ∨ c = 930 ∨ ((c == 215) = false ∧ (c == 930) = false ∧ ((betB c 65 90 = true ∧ foldC c = c + 32) ∨ (betB c 65 90 = false ∧ betB c 192 222 = true ∧ foldC c = c + 32) ∨ (betB c 65 90 = false ∧ betB c 192 222 = false ∧ betB c 913 937 = true ∧ foldC c = c + 32) ∨ (betB c 65 90 = false ∧ betB c 192 222 = false ∧ betB c 913 937 = false ∧ betB c 1040 1071 = true ∧ foldC c = c + 32) ∨ (betB c 65 90 = false ∧ betB c 192 222 = false ∧ betB c 913 937 = false ∧ betB c 1040 1071 = false ∧ betB c 1024 1039 = true ∧ foldC c = c + 80) ∨ (betB c 65 90 = false ∧ betB c 192 222 = false ∧ betB c 913 937 = false ∧ betB c 1040 1071 = false ∧ betB c 1024 1039 = false ∧ foldC c = c))) := by
  by_cases a1 : c = 215
  · exact .inl a1
  by_cases a2 : c = 930
  · exact .inr (.inl a2)
  refine .inr (.inr ⟨by simp; exact a1, by simp; exact a2, ?_⟩)
  by_cases b1 : 65 ≤ c ∧ c ≤ 90
  · exact .inl ⟨betB_yes b1, foldC_32 (by omega)⟩
  by_cases b2 : 192 ≤ c ∧ c ≤ 222
  · exact .inr (.inl ⟨betB_no (by omega), betB_yes b2, foldC_32 (by omega)⟩)
  by_cases b3 : 913 ≤ c ∧ c ≤ 937
  · exact .inr (.inr (.inl ⟨betB_no (by omega), betB_no (by omega), betB_yes b3, foldC_32 (by omega)⟩))
  by_cases b4 : 1040 ≤ c ∧ c ≤ 1071
  · exact .inr (.inr (.inr (.inl ⟨betB_no (by omega), betB_no (by omega), betB_no (by omega), betB_yes b4, foldC_32 (by omega)⟩)))
  by_cases b5 : 1024 ≤ c ∧ c ≤ 1039
  · exact .inr (.inr (.inr (.inr (.inl ⟨betB_no (by omega), betB_no (by omega), betB_no (by omega), betB_no (by omega), betB_yes b5, foldC_80 b5⟩))))
  · exact .inr (.inr (.inr (.inr (.inr ⟨betB_no (by omega), betB_no (by omega), betB_no (by omega), betB_no (by omega), betB_no (by omega), foldC_0 (by omega) b5⟩))))

set_option maxHeartbeats 2000000 in
theorem fold5_any (c : Int) (w : World) (h0 : 0 ≤ c) (h1 : c ≤ 1114111) : Calls Try.prog 32 #[.int .i32 c] w fun e w' => e = .returned (.int .i32 (foldC c)) ∧ w = w' := by
  rcases fold_split c with rfl | rfl | ⟨d1, d2, ⟨e1, e9⟩ | ⟨e1, e2, e9⟩ | ⟨e1, e2, e3, e9⟩ | ⟨e1, e2, e3, e4, e9⟩ | ⟨e1, e2, e3, e4, e5, e9⟩ | ⟨e1, e2, e3, e4, e5, e9⟩⟩
  · go_enter Try.func32, Try.ntmps32
    go_wp2_with fail
    go_ret
    exact ⟨rfl, rfl⟩
  · go_enter Try.func32, Try.ntmps32
    go_wp2_with fail
    go_ret
    exact ⟨rfl, rfl⟩
  all_goals
    rw [e9]
    clear e9
    go_enter Try.func32, Try.ntmps32
    go_wp2_with ((with_reducible refine (between_any _ _ _ _).mono ?_); rintro e w' ⟨rfl, rfl⟩)
    go_ret
    exact ⟨rfl, rfl⟩
set_option maxHeartbeats 4000000 in
theorem refold_any (c : Int) (w : World) (h0 : 0 ≤ c) (h1 : c ≤ 1114111) : Calls Try.prog 33 #[.int .i32 c] w fun e w' => e = .returned (.int .i32 (foldC c)) ∧ w = w' := by
  by_cases r0 : c ≤ 64
  · rw [foldC_0 (by omega) (by omega)]
    have g65 : decide ((65 : Int) ≤ c) = false := by simp; omega
    have g90 : decide (c ≤ (90 : Int)) = true := by simp; omega
    have g192 : decide ((192 : Int) ≤ c) = false := by simp; omega
    have g222 : decide (c ≤ (222 : Int)) = true := by simp; omega
    have g215 : (c != 215) = true := by simp; omega
    have g913 : decide ((913 : Int) ≤ c) = false := by simp; omega
    have g937 : decide (c ≤ (937 : Int)) = true := by simp; omega
    have g930 : (c != 930) = true := by simp; omega
    have g1040 : decide ((1040 : Int) ≤ c) = false := by simp; omega
    have g1071 : decide (c ≤ (1071 : Int)) = true := by simp; omega
    have g1024 : decide ((1024 : Int) ≤ c) = false := by simp; omega
    have g1039 : decide (c ≤ (1039 : Int)) = true := by simp; omega
    clear r0
    go_enter Try.func33, Try.ntmps33
    go_wp2_with fail
    go_ret
    exact ⟨rfl, rfl⟩
  by_cases r1 : c ≤ 90
  · rw [foldC_32 (by omega)]
    have g65 : decide ((65 : Int) ≤ c) = true := by simp; omega
    have g90 : decide (c ≤ (90 : Int)) = true := by simp; omega
    have g192 : decide ((192 : Int) ≤ c) = false := by simp; omega
    have g222 : decide (c ≤ (222 : Int)) = true := by simp; omega
    have g215 : (c != 215) = true := by simp; omega
    have g913 : decide ((913 : Int) ≤ c) = false := by simp; omega
    have g937 : decide (c ≤ (937 : Int)) = true := by simp; omega
    have g930 : (c != 930) = true := by simp; omega
    have g1040 : decide ((1040 : Int) ≤ c) = false := by simp; omega
    have g1071 : decide (c ≤ (1071 : Int)) = true := by simp; omega
    have g1024 : decide ((1024 : Int) ≤ c) = false := by simp; omega
    have g1039 : decide (c ≤ (1039 : Int)) = true := by simp; omega
    clear r0 r1
    go_enter Try.func33, Try.ntmps33
    go_wp2_with fail
    go_ret
    exact ⟨rfl, rfl⟩
  by_cases r2 : c ≤ 191
  · rw [foldC_0 (by omega) (by omega)]
    have g65 : decide ((65 : Int) ≤ c) = true := by simp; omega
    have g90 : decide (c ≤ (90 : Int)) = false := by simp; omega
    have g192 : decide ((192 : Int) ≤ c) = false := by simp; omega
    have g222 : decide (c ≤ (222 : Int)) = true := by simp; omega
    have g215 : (c != 215) = true := by simp; omega
    have g913 : decide ((913 : Int) ≤ c) = false := by simp; omega
    have g937 : decide (c ≤ (937 : Int)) = true := by simp; omega
    have g930 : (c != 930) = true := by simp; omega
    have g1040 : decide ((1040 : Int) ≤ c) = false := by simp; omega
    have g1071 : decide (c ≤ (1071 : Int)) = true := by simp; omega
    have g1024 : decide ((1024 : Int) ≤ c) = false := by simp; omega
    have g1039 : decide (c ≤ (1039 : Int)) = true := by simp; omega
    clear r0 r1 r2
    go_enter Try.func33, Try.ntmps33
    go_wp2_with fail
    go_ret
    exact ⟨rfl, rfl⟩
  by_cases r3 : c ≤ 214
  · rw [foldC_32 (by omega)]
    have g65 : decide ((65 : Int) ≤ c) = true := by simp; omega
    have g90 : decide (c ≤ (90 : Int)) = false := by simp; omega
    have g192 : decide ((192 : Int) ≤ c) = true := by simp; omega
    have g222 : decide (c ≤ (222 : Int)) = true := by simp; omega
    have g215 : (c != 215) = true := by simp; omega
    have g913 : decide ((913 : Int) ≤ c) = false := by simp; omega
    have g937 : decide (c ≤ (937 : Int)) = true := by simp; omega
    have g930 : (c != 930) = true := by simp; omega
    have g1040 : decide ((1040 : Int) ≤ c) = false := by simp; omega
    have g1071 : decide (c ≤ (1071 : Int)) = true := by simp; omega
    have g1024 : decide ((1024 : Int) ≤ c) = false := by simp; omega
    have g1039 : decide (c ≤ (1039 : Int)) = true := by simp; omega
    clear r0 r1 r2 r3
    go_enter Try.func33, Try.ntmps33
    go_wp2_with fail
    go_ret
    exact ⟨rfl, rfl⟩
  by_cases r4 : c ≤ 215
  · rw [foldC_0 (by omega) (by omega)]
    have g65 : decide ((65 : Int) ≤ c) = true := by simp; omega
    have g90 : decide (c ≤ (90 : Int)) = false := by simp; omega
    have g192 : decide ((192 : Int) ≤ c) = true := by simp; omega
    have g222 : decide (c ≤ (222 : Int)) = true := by simp; omega
    have g215 : (c != 215) = false := by simp; omega
    have g913 : decide ((913 : Int) ≤ c) = false := by simp; omega
    have g937 : decide (c ≤ (937 : Int)) = true := by simp; omega
    have g930 : (c != 930) = true := by simp; omega
    have g1040 : decide ((1040 : Int) ≤ c) = false := by simp; omega
    have g1071 : decide (c ≤ (1071 : Int)) = true := by simp; omega
    have g1024 : decide ((1024 : Int) ≤ c) = false := by simp; omega
    have g1039 : decide (c ≤ (1039 : Int)) = true := by simp; omega
    clear r0 r1 r2 r3 r4
    go_enter Try.func33, Try.ntmps33
    go_wp2_with fail
    go_ret
    exact ⟨rfl, rfl⟩
  by_cases r5 : c ≤ 222
  · rw [foldC_32 (by omega)]
    have g65 : decide ((65 : Int) ≤ c) = true := by simp; omega
    have g90 : decide (c ≤ (90 : Int)) = false := by simp; omega
    have g192 : decide ((192 : Int) ≤ c) = true := by simp; omega
    have g222 : decide (c ≤ (222 : Int)) = true := by simp; omega
    have g215 : (c != 215) = true := by simp; omega
    have g913 : decide ((913 : Int) ≤ c) = false := by simp; omega
    have g937 : decide (c ≤ (937 : Int)) = true := by simp; omega
    have g930 : (c != 930) = true := by simp; omega
    have g1040 : decide ((1040 : Int) ≤ c) = false := by simp; omega
    have g1071 : decide (c ≤ (1071 : Int)) = true := by simp; omega
    have g1024 : decide ((1024 : Int) ≤ c) = false := by simp; omega
    have g1039 : decide (c ≤ (1039 : Int)) = true := by simp; omega
    clear r0 r1 r2 r3 r4 r5
    go_enter Try.func33, Try.ntmps33
    go_wp2_with fail
    go_ret
    exact ⟨rfl, rfl⟩
  by_cases r6 : c ≤ 912
  · rw [foldC_0 (by omega) (by omega)]
    have g65 : decide ((65 : Int) ≤ c) = true := by simp; omega
    have g90 : decide (c ≤ (90 : Int)) = false := by simp; omega
    have g192 : decide ((192 : Int) ≤ c) = true := by simp; omega
    have g222 : decide (c ≤ (222 : Int)) = false := by simp; omega
    have g215 : (c != 215) = true := by simp; omega
    have g913 : decide ((913 : Int) ≤ c) = false := by simp; omega
    have g937 : decide (c ≤ (937 : Int)) = true := by simp; omega
    have g930 : (c != 930) = true := by simp; omega
    have g1040 : decide ((1040 : Int) ≤ c) = false := by simp; omega
    have g1071 : decide (c ≤ (1071 : Int)) = true := by simp; omega
    have g1024 : decide ((1024 : Int) ≤ c) = false := by simp; omega
    have g1039 : decide (c ≤ (1039 : Int)) = true := by simp; omega
    clear r0 r1 r2 r3 r4 r5 r6
    go_enter Try.func33, Try.ntmps33
    go_wp2_with fail
    go_ret
    exact ⟨rfl, rfl⟩
  by_cases r7 : c ≤ 929
  · rw [foldC_32 (by omega)]
    have g65 : decide ((65 : Int) ≤ c) = true := by simp; omega
    have g90 : decide (c ≤ (90 : Int)) = false := by simp; omega
    have g192 : decide ((192 : Int) ≤ c) = true := by simp; omega
    have g222 : decide (c ≤ (222 : Int)) = false := by simp; omega
    have g215 : (c != 215) = true := by simp; omega
    have g913 : decide ((913 : Int) ≤ c) = true := by simp; omega
    have g937 : decide (c ≤ (937 : Int)) = true := by simp; omega
    have g930 : (c != 930) = true := by simp; omega
    have g1040 : decide ((1040 : Int) ≤ c) = false := by simp; omega
    have g1071 : decide (c ≤ (1071 : Int)) = true := by simp; omega
    have g1024 : decide ((1024 : Int) ≤ c) = false := by simp; omega
    have g1039 : decide (c ≤ (1039 : Int)) = true := by simp; omega
    clear r0 r1 r2 r3 r4 r5 r6 r7
    go_enter Try.func33, Try.ntmps33
    go_wp2_with fail
    go_ret
    exact ⟨rfl, rfl⟩
  by_cases r8 : c ≤ 930
  · rw [foldC_0 (by omega) (by omega)]
    have g65 : decide ((65 : Int) ≤ c) = true := by simp; omega
    have g90 : decide (c ≤ (90 : Int)) = false := by simp; omega
    have g192 : decide ((192 : Int) ≤ c) = true := by simp; omega
    have g222 : decide (c ≤ (222 : Int)) = false := by simp; omega
    have g215 : (c != 215) = true := by simp; omega
    have g913 : decide ((913 : Int) ≤ c) = true := by simp; omega
    have g937 : decide (c ≤ (937 : Int)) = true := by simp; omega
    have g930 : (c != 930) = false := by simp; omega
    have g1040 : decide ((1040 : Int) ≤ c) = false := by simp; omega
    have g1071 : decide (c ≤ (1071 : Int)) = true := by simp; omega
    have g1024 : decide ((1024 : Int) ≤ c) = false := by simp; omega
    have g1039 : decide (c ≤ (1039 : Int)) = true := by simp; omega
    clear r0 r1 r2 r3 r4 r5 r6 r7 r8
    go_enter Try.func33, Try.ntmps33
    go_wp2_with fail
    go_ret
    exact ⟨rfl, rfl⟩
  by_cases r9 : c ≤ 937
  · rw [foldC_32 (by omega)]
    have g65 : decide ((65 : Int) ≤ c) = true := by simp; omega
    have g90 : decide (c ≤ (90 : Int)) = false := by simp; omega
    have g192 : decide ((192 : Int) ≤ c) = true := by simp; omega
    have g222 : decide (c ≤ (222 : Int)) = false := by simp; omega
    have g215 : (c != 215) = true := by simp; omega
    have g913 : decide ((913 : Int) ≤ c) = true := by simp; omega
    have g937 : decide (c ≤ (937 : Int)) = true := by simp; omega
    have g930 : (c != 930) = true := by simp; omega
    have g1040 : decide ((1040 : Int) ≤ c) = false := by simp; omega
    have g1071 : decide (c ≤ (1071 : Int)) = true := by simp; omega
    have g1024 : decide ((1024 : Int) ≤ c) = false := by simp; omega
    have g1039 : decide (c ≤ (1039 : Int)) = true := by simp; omega
    clear r0 r1 r2 r3 r4 r5 r6 r7 r8 r9
    go_enter Try.func33, Try.ntmps33
    go_wp2_with fail
    go_ret
    exact ⟨rfl, rfl⟩
  by_cases r10 : c ≤ 1023
  · rw [foldC_0 (by omega) (by omega)]
    have g65 : decide ((65 : Int) ≤ c) = true := by simp; omega
    have g90 : decide (c ≤ (90 : Int)) = false := by simp; omega
    have g192 : decide ((192 : Int) ≤ c) = true := by simp; omega
    have g222 : decide (c ≤ (222 : Int)) = false := by simp; omega
    have g215 : (c != 215) = true := by simp; omega
    have g913 : decide ((913 : Int) ≤ c) = true := by simp; omega
    have g937 : decide (c ≤ (937 : Int)) = false := by simp; omega
    have g930 : (c != 930) = true := by simp; omega
    have g1040 : decide ((1040 : Int) ≤ c) = false := by simp; omega
    have g1071 : decide (c ≤ (1071 : Int)) = true := by simp; omega
    have g1024 : decide ((1024 : Int) ≤ c) = false := by simp; omega
    have g1039 : decide (c ≤ (1039 : Int)) = true := by simp; omega
    clear r0 r1 r2 r3 r4 r5 r6 r7 r8 r9 r10
    go_enter Try.func33, Try.ntmps33
    go_wp2_with fail
    go_ret
    exact ⟨rfl, rfl⟩
  by_cases r11 : c ≤ 1039
  · rw [foldC_80 (by omega)]
    have g65 : decide ((65 : Int) ≤ c) = true := by simp; omega
    have g90 : decide (c ≤ (90 : Int)) = false := by simp; omega
    have g192 : decide ((192 : Int) ≤ c) = true := by simp; omega
    have g222 : decide (c ≤ (222 : Int)) = false := by simp; omega
    have g215 : (c != 215) = true := by simp; omega
    have g913 : decide ((913 : Int) ≤ c) = true := by simp; omega
    have g937 : decide (c ≤ (937 : Int)) = false := by simp; omega
    have g930 : (c != 930) = true := by simp; omega
    have g1040 : decide ((1040 : Int) ≤ c) = false := by simp; omega
    have g1071 : decide (c ≤ (1071 : Int)) = true := by simp; omega
    have g1024 : decide ((1024 : Int) ≤ c) = true := by simp; omega
    have g1039 : decide (c ≤ (1039 : Int)) = true := by simp; omega
    clear r0 r1 r2 r3 r4 r5 r6 r7 r8 r9 r10 r11
    go_enter Try.func33, Try.ntmps33
    go_wp2_with fail
    go_ret
    exact ⟨rfl, rfl⟩
  by_cases r12 : c ≤ 1071
  · rw [foldC_32 (by omega)]
    have g65 : decide ((65 : Int) ≤ c) = true := by simp; omega
    have g90 : decide (c ≤ (90 : Int)) = false := by simp; omega
    have g192 : decide ((192 : Int) ≤ c) = true := by simp; omega
    have g222 : decide (c ≤ (222 : Int)) = false := by simp; omega
    have g215 : (c != 215) = true := by simp; omega
    have g913 : decide ((913 : Int) ≤ c) = true := by simp; omega
    have g937 : decide (c ≤ (937 : Int)) = false := by simp; omega
    have g930 : (c != 930) = true := by simp; omega
    have g1040 : decide ((1040 : Int) ≤ c) = true := by simp; omega
    have g1071 : decide (c ≤ (1071 : Int)) = true := by simp; omega
    have g1024 : decide ((1024 : Int) ≤ c) = true := by simp; omega
    have g1039 : decide (c ≤ (1039 : Int)) = false := by simp; omega
    clear r0 r1 r2 r3 r4 r5 r6 r7 r8 r9 r10 r11 r12
    go_enter Try.func33, Try.ntmps33
    go_wp2_with fail
    go_ret
    exact ⟨rfl, rfl⟩
  · rw [foldC_0 (by omega) (by omega)]
    have g65 : decide ((65 : Int) ≤ c) = true := by simp; omega
    have g90 : decide (c ≤ (90 : Int)) = false := by simp; omega
    have g192 : decide ((192 : Int) ≤ c) = true := by simp; omega
    have g222 : decide (c ≤ (222 : Int)) = false := by simp; omega
    have g215 : (c != 215) = true := by simp; omega
    have g913 : decide ((913 : Int) ≤ c) = true := by simp; omega
    have g937 : decide (c ≤ (937 : Int)) = false := by simp; omega
    have g930 : (c != 930) = true := by simp; omega
    have g1040 : decide ((1040 : Int) ≤ c) = true := by simp; omega
    have g1071 : decide (c ≤ (1071 : Int)) = false := by simp; omega
    have g1024 : decide ((1024 : Int) ≤ c) = true := by simp; omega
    have g1039 : decide (c ≤ (1039 : Int)) = false := by simp; omega
    clear r0 r1 r2 r3 r4 r5 r6 r7 r8 r9 r10 r11 r12
    go_enter Try.func33, Try.ntmps33
    go_wp2_with fail
    go_ret
    exact ⟨rfl, rfl⟩
end Go.Proofs.Ytleachcokgjocaa
