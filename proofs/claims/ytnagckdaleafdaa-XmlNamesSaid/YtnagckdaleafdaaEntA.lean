/-
  entity.digit, number, right, Sign; the reference's.
-/
import Derived.Test.YtnagckdaleafdaaEntP
import Derived.Test.YtnagckdaleafdaaUt2
import Derived.Test.YtnagckdaleafdaaBas
import Derived.IntWalk
namespace Go.Proofs.Ytnagckdaleafdaa
open Go.RowKit Go.Nst
set_option maxRecDepth 100000
set_option linter.unusedVariables false
set_option linter.unusedSimpArgs false

theorem digV_split (c : Int) : (48 ≤ c ∧ c ≤ 57 ∧ digV c = c - 48) ∨ (c < 48 ∧ digV c = -1) ∨ (57 < c ∧ c < 65 ∧ digV c = -1) ∨ (65 ≤ c ∧ c ≤ 70 ∧ digV c = c - 65 + 10) ∨ (70 < c ∧ c < 97 ∧ digV c = -1) ∨ (97 ≤ c ∧ c ≤ 102 ∧ digV c = c - 97 + 10) ∨ (102 < c ∧ digV c = -1) := by
  unfold digV
  (repeat' split) <;> omega
set_option maxHeartbeats 4000000 in
theorem digit_any (c base : Int) (w : World) (hb0 : 2 ≤ base) (hb : base ≤ 16) (hc0 : 0 ≤ c) (hc1 : c ≤ 1114111) : Calls Try.prog 88 #[.int .i32 c, .int .i64 base] w fun e w' => e = .returned (.int .i64 (digB c base)) ∧ w = w' := by
  have HD : Hid (digB c base = if base ≤ digV c then -1 else digV c) := rfl
  rcases digV_split c with ⟨r1, r2, hv⟩ | ⟨r1, hv⟩ | ⟨r1, r2, hv⟩ | ⟨r1, r2, hv⟩ | ⟨r1, r2, hv⟩ | ⟨r1, r2, hv⟩ | ⟨r1, hv⟩
  · rw [hv] at HD
    clear hv
    have g48 : decide ((48 : Int) ≤ c) = true := by simp; omega
    have g57 : decide (c ≤ (57 : Int)) = true := by simp; omega
    have g97 : decide ((97 : Int) ≤ c) = false := by simp; omega
    have g102 : decide (c ≤ (102 : Int)) = true := by simp; omega
    have g65 : decide ((65 : Int) ≤ c) = false := by simp; omega
    have g70 : decide (c ≤ (70 : Int)) = true := by simp; omega
    by_cases hbb : base ≤ c - 48
    · have HD : Hid (digB c base = -1) := Lib.hid (by rw [HD.out, if_pos hbb])
      have gb : decide (base ≤ c - 48) = true := by simp; omega
      go_enter Try.func88, Try.ntmps88
      go_wp2_with fail
      go_ret
      exact ⟨by rw [HD.out]; rfl, rfl⟩
    · have HD : Hid (digB c base = c - 48) := Lib.hid (by rw [HD.out, if_neg hbb])
      have gb : decide (base ≤ c - 48) = false := by simp; omega
      go_enter Try.func88, Try.ntmps88
      go_wp2_with fail
      go_ret
      exact ⟨by rw [HD.out]; rfl, rfl⟩
  · rw [hv] at HD
    clear hv
    have g48 : decide ((48 : Int) ≤ c) = false := by simp; omega
    have g57 : decide (c ≤ (57 : Int)) = true := by simp; omega
    have g97 : decide ((97 : Int) ≤ c) = false := by simp; omega
    have g102 : decide (c ≤ (102 : Int)) = true := by simp; omega
    have g65 : decide ((65 : Int) ≤ c) = false := by simp; omega
    have g70 : decide (c ≤ (70 : Int)) = true := by simp; omega
    have HD : Hid (digB c base = -1) := Lib.hid (by rw [HD.out]; split <;> rfl)
    have gb : decide (base ≤ -1) = false := by simp; omega
    go_enter Try.func88, Try.ntmps88
    go_wp2_with fail
    go_ret
    exact ⟨by rw [HD.out]; rfl, rfl⟩
  · rw [hv] at HD
    clear hv
    have g48 : decide ((48 : Int) ≤ c) = true := by simp; omega
    have g57 : decide (c ≤ (57 : Int)) = false := by simp; omega
    have g97 : decide ((97 : Int) ≤ c) = false := by simp; omega
    have g102 : decide (c ≤ (102 : Int)) = true := by simp; omega
    have g65 : decide ((65 : Int) ≤ c) = false := by simp; omega
    have g70 : decide (c ≤ (70 : Int)) = true := by simp; omega
    have HD : Hid (digB c base = -1) := Lib.hid (by rw [HD.out]; split <;> rfl)
    have gb : decide (base ≤ -1) = false := by simp; omega
    go_enter Try.func88, Try.ntmps88
    go_wp2_with fail
    go_ret
    exact ⟨by rw [HD.out]; rfl, rfl⟩
  · rw [hv] at HD
    clear hv
    have g48 : decide ((48 : Int) ≤ c) = true := by simp; omega
    have g57 : decide (c ≤ (57 : Int)) = false := by simp; omega
    have g97 : decide ((97 : Int) ≤ c) = false := by simp; omega
    have g102 : decide (c ≤ (102 : Int)) = true := by simp; omega
    have g65 : decide ((65 : Int) ≤ c) = true := by simp; omega
    have g70 : decide (c ≤ (70 : Int)) = true := by simp; omega
    by_cases hbb : base ≤ c - 65 + 10
    · have HD : Hid (digB c base = -1) := Lib.hid (by rw [HD.out, if_pos hbb])
      have gb : decide (base ≤ c - 65 + 10) = true := by simp; omega
      go_enter Try.func88, Try.ntmps88
      go_wp2_with fail
      go_ret
      exact ⟨by rw [HD.out]; rfl, rfl⟩
    · have HD : Hid (digB c base = c - 65 + 10) := Lib.hid (by rw [HD.out, if_neg hbb])
      have gb : decide (base ≤ c - 65 + 10) = false := by simp; omega
      go_enter Try.func88, Try.ntmps88
      go_wp2_with fail
      go_ret
      exact ⟨by rw [HD.out]; rfl, rfl⟩
  · rw [hv] at HD
    clear hv
    have g48 : decide ((48 : Int) ≤ c) = true := by simp; omega
    have g57 : decide (c ≤ (57 : Int)) = false := by simp; omega
    have g97 : decide ((97 : Int) ≤ c) = false := by simp; omega
    have g102 : decide (c ≤ (102 : Int)) = true := by simp; omega
    have g65 : decide ((65 : Int) ≤ c) = true := by simp; omega
    have g70 : decide (c ≤ (70 : Int)) = false := by simp; omega
    have HD : Hid (digB c base = -1) := Lib.hid (by rw [HD.out]; split <;> rfl)
    have gb : decide (base ≤ -1) = false := by simp; omega
    go_enter Try.func88, Try.ntmps88
    go_wp2_with fail
    go_ret
    exact ⟨by rw [HD.out]; rfl, rfl⟩
  · rw [hv] at HD
    clear hv
    have g48 : decide ((48 : Int) ≤ c) = true := by simp; omega
    have g57 : decide (c ≤ (57 : Int)) = false := by simp; omega
    have g97 : decide ((97 : Int) ≤ c) = true := by simp; omega
    have g102 : decide (c ≤ (102 : Int)) = true := by simp; omega
    have g65 : decide ((65 : Int) ≤ c) = true := by simp; omega
    have g70 : decide (c ≤ (70 : Int)) = false := by simp; omega
    by_cases hbb : base ≤ c - 97 + 10
    · have HD : Hid (digB c base = -1) := Lib.hid (by rw [HD.out, if_pos hbb])
      have gb : decide (base ≤ c - 97 + 10) = true := by simp; omega
      go_enter Try.func88, Try.ntmps88
      go_wp2_with fail
      go_ret
      exact ⟨by rw [HD.out]; rfl, rfl⟩
    · have HD : Hid (digB c base = c - 97 + 10) := Lib.hid (by rw [HD.out, if_neg hbb])
      have gb : decide (base ≤ c - 97 + 10) = false := by simp; omega
      go_enter Try.func88, Try.ntmps88
      go_wp2_with fail
      go_ret
      exact ⟨by rw [HD.out]; rfl, rfl⟩
  · rw [hv] at HD
    clear hv
    have g48 : decide ((48 : Int) ≤ c) = true := by simp; omega
    have g57 : decide (c ≤ (57 : Int)) = false := by simp; omega
    have g97 : decide ((97 : Int) ≤ c) = true := by simp; omega
    have g102 : decide (c ≤ (102 : Int)) = false := by simp; omega
    have g65 : decide ((65 : Int) ≤ c) = true := by simp; omega
    have g70 : decide (c ≤ (70 : Int)) = false := by simp; omega
    have HD : Hid (digB c base = -1) := Lib.hid (by rw [HD.out]; split <;> rfl)
    have gb : decide (base ≤ -1) = false := by simp; omega
    go_enter Try.func88, Try.ntmps88
    go_wp2_with fail
    go_ret
    exact ⟨by rw [HD.out]; rfl, rfl⟩
set_option maxHeartbeats 4000000 in
theorem refDigit_any (c base : Int) (w : World) (hb0 : 2 ≤ base) (hb : base ≤ 16) (hc0 : 0 ≤ c) (hc1 : c ≤ 255) : Calls Try.prog 91 #[.int .u8 c, .int .i64 base] w fun e w' => e = .returned (.int .i64 (digB c base)) ∧ w = w' := by
  have HD : Hid (digB c base = if base ≤ digV c then -1 else digV c) := rfl
  rcases digV_split c with ⟨r1, r2, hv⟩ | ⟨r1, hv⟩ | ⟨r1, r2, hv⟩ | ⟨r1, r2, hv⟩ | ⟨r1, r2, hv⟩ | ⟨r1, r2, hv⟩ | ⟨r1, hv⟩
  · rw [hv] at HD
    clear hv
    have g48 : decide ((48 : Int) ≤ c) = true := by simp; omega
    have g57 : decide (c ≤ (57 : Int)) = true := by simp; omega
    have g97 : decide ((97 : Int) ≤ c) = false := by simp; omega
    have g102 : decide (c ≤ (102 : Int)) = true := by simp; omega
    have g65 : decide ((65 : Int) ≤ c) = false := by simp; omega
    have g70 : decide (c ≤ (70 : Int)) = true := by simp; omega
    by_cases hbb : base ≤ c - 48
    · have HD : Hid (digB c base = -1) := Lib.hid (by rw [HD.out, if_pos hbb])
      have gb : decide (base ≤ c - 48) = true := by simp; omega
      go_enter Try.func91, Try.ntmps91
      go_wp2_with fail
      go_ret
      exact ⟨by rw [HD.out]; rfl, rfl⟩
    · have HD : Hid (digB c base = c - 48) := Lib.hid (by rw [HD.out, if_neg hbb])
      have gb : decide (base ≤ c - 48) = false := by simp; omega
      go_enter Try.func91, Try.ntmps91
      go_wp2_with fail
      go_ret
      exact ⟨by rw [HD.out]; rfl, rfl⟩
  · rw [hv] at HD
    clear hv
    have g48 : decide ((48 : Int) ≤ c) = false := by simp; omega
    have g57 : decide (c ≤ (57 : Int)) = true := by simp; omega
    have g97 : decide ((97 : Int) ≤ c) = false := by simp; omega
    have g102 : decide (c ≤ (102 : Int)) = true := by simp; omega
    have g65 : decide ((65 : Int) ≤ c) = false := by simp; omega
    have g70 : decide (c ≤ (70 : Int)) = true := by simp; omega
    have HD : Hid (digB c base = -1) := Lib.hid (by rw [HD.out]; split <;> rfl)
    have gb : decide (base ≤ -1) = false := by simp; omega
    go_enter Try.func91, Try.ntmps91
    go_wp2_with fail
    go_ret
    exact ⟨by rw [HD.out]; rfl, rfl⟩
  · rw [hv] at HD
    clear hv
    have g48 : decide ((48 : Int) ≤ c) = true := by simp; omega
    have g57 : decide (c ≤ (57 : Int)) = false := by simp; omega
    have g97 : decide ((97 : Int) ≤ c) = false := by simp; omega
    have g102 : decide (c ≤ (102 : Int)) = true := by simp; omega
    have g65 : decide ((65 : Int) ≤ c) = false := by simp; omega
    have g70 : decide (c ≤ (70 : Int)) = true := by simp; omega
    have HD : Hid (digB c base = -1) := Lib.hid (by rw [HD.out]; split <;> rfl)
    have gb : decide (base ≤ -1) = false := by simp; omega
    go_enter Try.func91, Try.ntmps91
    go_wp2_with fail
    go_ret
    exact ⟨by rw [HD.out]; rfl, rfl⟩
  · rw [hv] at HD
    clear hv
    have g48 : decide ((48 : Int) ≤ c) = true := by simp; omega
    have g57 : decide (c ≤ (57 : Int)) = false := by simp; omega
    have g97 : decide ((97 : Int) ≤ c) = false := by simp; omega
    have g102 : decide (c ≤ (102 : Int)) = true := by simp; omega
    have g65 : decide ((65 : Int) ≤ c) = true := by simp; omega
    have g70 : decide (c ≤ (70 : Int)) = true := by simp; omega
    by_cases hbb : base ≤ c - 65 + 10
    · have HD : Hid (digB c base = -1) := Lib.hid (by rw [HD.out, if_pos hbb])
      have gb : decide (base ≤ c - 65 + 10) = true := by simp; omega
      go_enter Try.func91, Try.ntmps91
      go_wp2_with fail
      go_ret
      exact ⟨by rw [HD.out]; rfl, rfl⟩
    · have HD : Hid (digB c base = c - 65 + 10) := Lib.hid (by rw [HD.out, if_neg hbb])
      have gb : decide (base ≤ c - 65 + 10) = false := by simp; omega
      go_enter Try.func91, Try.ntmps91
      go_wp2_with fail
      go_ret
      exact ⟨by rw [HD.out]; rfl, rfl⟩
  · rw [hv] at HD
    clear hv
    have g48 : decide ((48 : Int) ≤ c) = true := by simp; omega
    have g57 : decide (c ≤ (57 : Int)) = false := by simp; omega
    have g97 : decide ((97 : Int) ≤ c) = false := by simp; omega
    have g102 : decide (c ≤ (102 : Int)) = true := by simp; omega
    have g65 : decide ((65 : Int) ≤ c) = true := by simp; omega
    have g70 : decide (c ≤ (70 : Int)) = false := by simp; omega
    have HD : Hid (digB c base = -1) := Lib.hid (by rw [HD.out]; split <;> rfl)
    have gb : decide (base ≤ -1) = false := by simp; omega
    go_enter Try.func91, Try.ntmps91
    go_wp2_with fail
    go_ret
    exact ⟨by rw [HD.out]; rfl, rfl⟩
  · rw [hv] at HD
    clear hv
    have g48 : decide ((48 : Int) ≤ c) = true := by simp; omega
    have g57 : decide (c ≤ (57 : Int)) = false := by simp; omega
    have g97 : decide ((97 : Int) ≤ c) = true := by simp; omega
    have g102 : decide (c ≤ (102 : Int)) = true := by simp; omega
    have g65 : decide ((65 : Int) ≤ c) = true := by simp; omega
    have g70 : decide (c ≤ (70 : Int)) = false := by simp; omega
    by_cases hbb : base ≤ c - 97 + 10
    · have HD : Hid (digB c base = -1) := Lib.hid (by rw [HD.out, if_pos hbb])
      have gb : decide (base ≤ c - 97 + 10) = true := by simp; omega
      go_enter Try.func91, Try.ntmps91
      go_wp2_with fail
      go_ret
      exact ⟨by rw [HD.out]; rfl, rfl⟩
    · have HD : Hid (digB c base = c - 97 + 10) := Lib.hid (by rw [HD.out, if_neg hbb])
      have gb : decide (base ≤ c - 97 + 10) = false := by simp; omega
      go_enter Try.func91, Try.ntmps91
      go_wp2_with fail
      go_ret
      exact ⟨by rw [HD.out]; rfl, rfl⟩
  · rw [hv] at HD
    clear hv
    have g48 : decide ((48 : Int) ≤ c) = true := by simp; omega
    have g57 : decide (c ≤ (57 : Int)) = false := by simp; omega
    have g97 : decide ((97 : Int) ≤ c) = true := by simp; omega
    have g102 : decide (c ≤ (102 : Int)) = false := by simp; omega
    have g65 : decide ((65 : Int) ≤ c) = true := by simp; omega
    have g70 : decide (c ≤ (70 : Int)) = false := by simp; omega
    have HD : Hid (digB c base = -1) := Lib.hid (by rw [HD.out]; split <;> rfl)
    have gb : decide (base ≤ -1) = false := by simp; omega
    go_enter Try.func91, Try.ntmps91
    go_wp2_with fail
    go_ret
    exact ⟨by rw [HD.out]; rfl, rfl⟩

theorem num_round {base n : Int} {l : List UInt8} {pos : Nat} {u : UInt8} {tot : Int} (h : tot = numGo base n (l.drop pos)) (hu : l[pos]? = some u) (hd : ¬ digB (u.toNat : Int) base < 0) : tot = numGo base (base * n + digB (u.toNat : Int) base) (l.drop (pos + 1)) := by
  rw [h, List.drop_eq_getElem_cons (List.getElem?_eq_some_iff.1 hu).1, (List.getElem?_eq_some_iff.1 hu).2]
  simp only [numGo]
  rw [if_neg hd]
theorem num_stop {base n : Int} {l : List UInt8} {pos : Nat} {u : UInt8} {tot : Int} (h : tot = numGo base n (l.drop pos)) (hu : l[pos]? = some u) (hd : digB (u.toNat : Int) base < 0) : tot = -1 := by
  rw [h, List.drop_eq_getElem_cons (List.getElem?_eq_some_iff.1 hu).1, (List.getElem?_eq_some_iff.1 hu).2]
  simp only [numGo]
  rw [if_pos hd]
theorem num_end {base n : Int} {l : List UInt8} {pos : Nat} {tot : Int} (h : tot = numGo base n (l.drop pos)) (hp : l.length ≤ pos) : tot = n := by
  rw [h, List.drop_of_length_le hp]
  rfl
/-- the number so far is small -/
theorem num_small {base n d : Int} {k : Nat} (hb : 2 ≤ base ∧ base ≤ 16) (hn : 0 ≤ n) (hk : n < 16 ^ k) (hk7 : k < 7) (hd : 0 ≤ d ∧ d ≤ 15) : 0 ≤ base * n ∧ base * n + d < 16 ^ (k + 1) ∧ base * n ≤ 268435456 ∧ base * n + d ≤ 268435471 ∧ base * n + d ≤ 268435456 := by
  have h0 : 0 ≤ base * n := Int.mul_nonneg (by omega) hn
  have h1 : base * n ≤ 16 * n := Int.mul_le_mul_of_nonneg_right hb.2 hn
  have e1 : (16 : Int) ^ (k + 1) = 16 * 16 ^ k := by rw [Int.pow_succ, Int.mul_comm]
  have he : (16 : Int) ^ k = ((16 ^ k : Nat) : Int) := by simp
  have hp : (16 : Nat) ^ k ≤ 16 ^ 6 := Nat.pow_le_pow_right (by omega) (by omega)
  rw [e1]
  rw [he] at hk ⊢
  generalize 16 ^ k = q at *
  omega

set_option maxHeartbeats 4000000 in
theorem number_any7 (s : ByteArray) (base most : Int) (w : World) (hb : 2 ≤ base ∧ base ≤ 16) (hm : 0 ≤ most ∧ most ≤ 7) (hS : s.size ≤ 1000000) : Calls Try.prog 78 #[.string s, .int .i64 base, .int .i64 most] w fun e w' => e = .returned (.int .i64 (numberL (bl s) base most)) ∧ Below w.heap.size w w' := by
  have hbl := bl_len s
  by_cases h0 : s.size = 0
  · have e0 : bl s = [] := List.eq_nil_of_length_eq_zero (by omega)
    have HE : Hid (numberL (bl s) base most = -1) := Lib.hid (by unfold numberL; rw [if_pos (.inl e0)])
    obtain rfl : s = ⟨#[]⟩ := by rw [← bl_mk s, e0]
    clear h0 e0 hbl
    go_enter Try.func78, Try.ntmps78
    go_wp2_with fail
    go_ret
    exact ⟨by rw [HE.out]; rfl, Below.refl _ _⟩
  have hne2 : ¬ bl s = [] := fun e => h0 (by rw [← hbl, e]; rfl)
  have hne : ¬ s.toList = [] := by rw [ByteArray.toList_eq]; exact hne2
  have hne3 : s.toList.isEmpty = false := by rw [List.isEmpty_eq_false_iff]; exact hne
  by_cases hms : most < (s.size : Int)
  · have HE : Hid (numberL (bl s) base most = -1) := Lib.hid (by unfold numberL; rw [if_pos (.inr (by rw [hbl]; exact hms))])
    have d1 : decide (most < (s.size : Int)) = true := by simp; omega
    go_enter Try.func78, Try.ntmps78
    go_wp2_with fail
    go_ret
    exact ⟨by rw [HE.out]; rfl, Below.refl _ _⟩
  have d1 : decide (most < (s.size : Int)) = false := by simp; omega
  obtain ⟨tot, htot⟩ : ∃ tot, numberL (bl s) base most = tot := ⟨_, rfl⟩
  have HT : Hid (tot = numGo base 0 ((bl s).drop 0)) := Lib.hid (by rw [← htot]; unfold numberL; rw [if_neg (by rw [hbl]; rintro (h | h); (· exact hne2 h); (· omega))]; rfl)
  rw [htot]
  have HNE := Lib.hid hne2
  clear htot hne2 h0
  go_enter Try.func78, Try.ntmps78
  go_wp2_with fail
  go_loopw [7] (fun v wr => ∃ (pos : Nat) (n : Int), v = .int .i64 n ∧ pos ≤ s.size ∧ 0 ≤ n ∧ n ≤ 268435456 ∧ wr.heap[w.heap.size]? = some (.stringIter s pos) ∧ Below w.heap.size w wr ∧ Hid (n < 16 ^ pos ∧ tot = numGo base n ((bl s).drop pos))) (fun _ wr => s.size - wr.iterPos w.heap.size)
  case atStart =>
    refine ⟨0, 0, rfl, by omega, by omega, by omega, ?_, bel_alloc (Below.refl _ _) _, Lib.hid ⟨by decide, HT.out⟩⟩
    have := World.iter_heap w s 0
    simpa using this
  case round =>
    obtain ⟨pos, n, rfl, hps, hn0, hn1, hit, hbw, HR⟩ := hrel
    have hsz : w.heap.size < wr.heap.size := (Array.getElem?_eq_some_iff.1 hit).1
    by_cases hp : pos < s.size
    · have hnx : ∀ ty, (Instr.next (.pointer (some ⟨w.heap.size, 0, none⟩)) true ty).run Try.prog wr = _ := fun ty => Lib.run_next_any_at wr w.heap.size s pos ty hit hp
      have hw1 := firstL_width ((bl s).drop pos) (drop_ne (by omega))
      have hr1 := (firstL_rune ((bl s).drop pos)).1
      have hu := bl_get s pos hp
      have hdr : (bl s).drop pos = s[pos] :: (bl s).drop (pos + 1) := by rw [List.drop_eq_getElem_cons (show pos < (bl s).length by omega), (List.getElem?_eq_some_iff.1 hu).2]
      have hle : pos + (firstL ((bl s).drop pos)).2 ≤ s.size := by have := hw1.2.2; rw [List.length_drop, hbl] at this; omega
      rw [decode_bl s pos hp] at hnx
      generalize s[pos] = u at *
      have HU := Lib.hid hu
      clear hu
      have hlow : u.toNat < 128 → firstL ((bl s).drop pos) = (u.toNat, 1) := fun h => by rw [hdr]; exact firstL_low u _ h
      have hhigh : 128 ≤ u.toNat → 128 ≤ (firstL ((bl s).drop pos)).1 := fun h => by rw [hdr]; exact firstL_high u _ h
      have HDR := Lib.hid hdr
      clear hdr
      generalize firstL ((bl s).drop pos) = f at *
      have hit2 := Lib.iterAt_heap wr w.heap.size s pos (pos + f.2) hit
      have hbw2 := Lib.below_iterAt hbw (k := w.heap.size) (by omega) s (pos + f.2)
      have HC := Lib.hid (digit_any (f.1 : Int) base (wr.iterAt w.heap.size s (pos + f.2)) hb.1 hb.2 (by omega) (by omega))
      by_cases hd : digB (u.toNat : Int) base < 0
      · have HE := Lib.hid (num_stop HR.out.2 HU.out hd)
        have hdf : digB (f.1 : Int) base < 0 := by
          by_cases h128 : u.toNat < 128
          · rw [hlow h128]; exact hd
          · rw [digB_high _ _ (by have := hhigh (by omega); omega)]; omega
        clear hlow hhigh
        generalize digB (f.1 : Int) base = d at *
        have dd : decide (d < 0) = true := by simp; omega
        go_wp2_with fail
        refine HC.out.mono ?_
        rintro e w1 ⟨rfl, rfl⟩
        go_wp2_with fail
        go_ret
        exact ⟨by rw [HE.out]; rfl, hbw2⟩
      · have h128 : u.toNat < 128 := by
          rcases Nat.lt_or_ge u.toNat 128 with h | h
          · exact h
          · exact absurd (by rw [digB_high _ _ (by omega)]; omega) hd
        have hf := hlow h128
        have HN := Lib.hid (num_round HR.out.2 HU.out hd)
        have hdb := digB_bd (u.toNat : Int) base
        have hsm := num_small (d := digB (u.toNat : Int) base) hb hn0 HR.out.1 (by omega) (by omega)
        rw [hf] at HC hbw2 hit2 hle hnx
        simp only at HC hbw2 hit2 hle hnx
        clear hlow hhigh hf hw1 hr1
        have HS := Lib.hid hsm.2.1
        generalize digB (u.toNat : Int) base = d at *
        have dd : decide (d < 0) = false := by simp; omega
        obtain ⟨hs1, hs2, hs3, hs4, hs5⟩ := hsm
        generalize hbn : base * n = bn at *
        clear hs2
        have hbn : IntKind.i64.wrap (base * n) = bn := by rw [hbn]; exact IntWalk.i64_in _ (by omega)
        go_wp2_with fail
        refine HC.out.mono ?_
        rintro e w1 ⟨rfl, rfl⟩
        go_wp2_with fail
        go_roundw
        case rel => exact ⟨pos + 1, bn + d, rfl, hle, by omega, hs5, hit2, hbw2, Lib.hid ⟨HS.out, HN.out⟩⟩
        case measure =>
          simp only [World.iterPos, hit2, hit]
          omega
    · have hnx : ∀ ty, (Instr.next (.pointer (some ⟨w.heap.size, 0, none⟩)) true ty).run Try.prog wr = _ := fun ty => Lib.run_next_end_at wr w.heap.size s pos ty hit hp
      have HE := Lib.hid (num_end HR.out.2 (by omega))
      go_wp2_with fail
      go_ret
      exact ⟨by rw [HE.out]; rfl, hbw⟩

set_option maxHeartbeats 4000000 in
theorem refNumber_any7 (s : ByteArray) (base most : Int) (w : World) (hb : 2 ≤ base ∧ base ≤ 16) (hm : 0 ≤ most ∧ most ≤ 7) (hS : s.size ≤ 1000000) : Calls Try.prog 81 #[.string s, .int .i64 base, .int .i64 most] w fun e w' => e = .returned (.int .i64 (numberL (bl s) base most)) ∧ w = w' := by
  have hbl := bl_len s
  by_cases h0 : s.size = 0
  · have e0 : bl s = [] := List.eq_nil_of_length_eq_zero (by omega)
    have HE : Hid (numberL (bl s) base most = -1) := Lib.hid (by unfold numberL; rw [if_pos (.inl e0)])
    have d0 : decide ((s.size : Int) < 1) = true := by simp; omega
    have H0 := Lib.hid h0
    clear h0 e0 hbl
    go_enter Try.func81, Try.ntmps81
    go_wp2_with fail
    go_ret
    exact ⟨by rw [HE.out]; rfl, rfl⟩
  have hne2 : ¬ bl s = [] := fun e => h0 (by rw [← hbl, e]; rfl)
  have d0 : decide ((s.size : Int) < 1) = false := by simp; omega
  by_cases hms : most < (s.size : Int)
  · have HE : Hid (numberL (bl s) base most = -1) := Lib.hid (by unfold numberL; rw [if_pos (.inr (by rw [hbl]; exact hms))])
    have d1 : decide (most < (s.size : Int)) = true := by simp; omega
    go_enter Try.func81, Try.ntmps81
    go_wp2_with fail
    go_ret
    exact ⟨by rw [HE.out]; rfl, rfl⟩
  have d1 : decide (most < (s.size : Int)) = false := by simp; omega
  obtain ⟨tot, htot⟩ : ∃ tot, numberL (bl s) base most = tot := ⟨_, rfl⟩
  have HT : Hid (tot = numGo base 0 ((bl s).drop 0)) := Lib.hid (by rw [← htot]; unfold numberL; rw [if_neg (by rw [hbl]; rintro (h | h); (· exact hne2 h); (· omega))]; rfl)
  rw [htot]
  have HNE := Lib.hid hne2
  clear htot hne2 h0
  go_enter Try.func81, Try.ntmps81
  go_wp2_with fail
  go_loop [7, 8] (fun v i => ∃ (pos : Nat) (n : Int), v = .int .i64 n ∧ i = .int .i64 (pos : Int) ∧ pos ≤ s.size ∧ 0 ≤ n ∧ n ≤ 268435456 ∧ Hid (n < 16 ^ pos ∧ tot = numGo base n ((bl s).drop pos))) (fun _ i => s.size - (intOf i).toNat)
  case atStart => exact ⟨0, 0, rfl, rfl, by omega, by omega, by omega, Lib.hid ⟨by decide, HT.out⟩⟩
  case round =>
    obtain ⟨pos, n, rfl, rfl, hps, hn0, hn1, HR⟩ := hrel
    by_cases hp : pos < s.size
    · have hu := bl_get s pos hp
      obtain ⟨u, hu0⟩ : ∃ u, s[pos] = u := ⟨_, rfl⟩
      rw [hu0] at hu
      have HU := Lib.hid hu
      have hu8 := u.toNat_lt
      clear hu
      have HC := Lib.hid (refDigit_any (u.toNat : Int) base w hb.1 hb.2 (by omega) (by omega))
      by_cases hd : digB (u.toNat : Int) base < 0
      · have HE := Lib.hid (num_stop HR.out.2 HU.out hd)
        generalize digB (u.toNat : Int) base = d at *
        have dd : decide (d < 0) = true := by simp; omega
        go_wp2_with fail
        refine HC.out.mono ?_
        rintro e w1 ⟨rfl, rfl⟩
        go_wp2_with fail
        go_ret
        exact ⟨by rw [HE.out]; rfl, rfl⟩
      · have HN := Lib.hid (num_round HR.out.2 HU.out hd)
        have hdb := digB_bd (u.toNat : Int) base
        have hsm := num_small (d := digB (u.toNat : Int) base) hb hn0 HR.out.1 (by omega) (by omega)
        have HS := Lib.hid hsm.2.1
        generalize digB (u.toNat : Int) base = d at *
        have dd : decide (d < 0) = false := by simp; omega
        obtain ⟨hs1, hs2, hs3, hs4, hs5⟩ := hsm
        generalize hbn : base * n = bn at *
        clear hs2
        have hbn : IntKind.i64.wrap (base * n) = bn := by rw [hbn]; exact IntWalk.i64_in _ (by omega)
        go_wp2_with fail
        refine HC.out.mono ?_
        rintro e w1 ⟨rfl, rfl⟩
        go_wp2_with fail
        go_round
        case rel => exact ⟨pos + 1, bn + d, rfl, by go_num, by omega, by omega, hs5, Lib.hid ⟨HS.out, HN.out⟩⟩
        case measure => simp [intOf]; omega
    · have HE := Lib.hid (num_end HR.out.2 (by omega))
      go_wp2_with fail
      go_ret
      exact ⟨by rw [HE.out]; rfl, rfl⟩
end Go.Proofs.Ytnagckdaleafdaa
