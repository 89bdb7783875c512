/-
  The reference's First, walked.
-/
import Derived.Test.YtleachcokgjocaaUtfA
import Derived.Laws.Strings3
namespace Go.Proofs.Ytleachcokgjocaa
open Go.RowKit Go.Nst
set_option maxRecDepth 100000
set_option linter.unusedVariables false

def RetF (w : World) (p : Nat × Nat) (e : Ending) (w' : World) : Prop := e = .returned (.tuple #[.int .i32 (p.1 : Int), .int .i64 (p.2 : Int)]) ∧ w = w'

theorem bl_cons (s : ByteArray) (h : 0 < s.size) : bl s = (s[(0 : Nat)]'h) :: (bl s).drop 1 := by
  have h1 := bl_get s 0 h
  have h2 : 0 < (bl s).length := by rw [bl_len]; exact h
  have h3 : (bl s)[0]'h2 = s[(0 : Nat)]'h := by rw [List.getElem?_eq_getElem h2] at h1; injection h1
  rw [← h3]
  exact (List.getElem_cons_drop h2).symm

theorem accT_round {k n : Nat} {t : List UInt8} {d : UInt8} {z : Option Nat} {y : Nat} (h : z = accT y ((t.drop k).take (n - k))) (hk : k < n) (hd : t[k]? = some d) :
    (tailB d = true → z = accT (y * 64 + (d.toNat - 128)) ((t.drop (k + 1)).take (n - (k + 1)))) ∧ (tailB d = false → z = none) := by
  obtain ⟨hl, hd⟩ := List.getElem?_eq_some_iff.1 hd
  have e1 : (t.drop k).take (n - k) = d :: (t.drop (k + 1)).take (n - (k + 1)) := by
    rw [← List.getElem_cons_drop hl, hd]
    obtain ⟨m, hm⟩ : ∃ m, n - k = m + 1 := ⟨n - k - 1, by omega⟩
    rw [hm, show n - (k + 1) = m by omega]
    rfl
  rw [e1] at h
  constructor
  · intro ht
    rw [h]
    simp [accT, ht]
  · intro ht
    rw [h]
    simp [accT, ht]
theorem accT_end {k n : Nat} {t : List UInt8} {z : Option Nat} {y : Nat} (h : z = accT y ((t.drop k).take (n - k))) (hk : n ≤ k) : z = some y := by
  rw [h, show n - k = 0 by omega]
  rfl

theorem seenT_low (least n y : Nat) (h : y < least) : seenT least n (some y) = (65533, 1) := by
  have : ¬ least ≤ y := by omega
  simp [seenT, this]
theorem seenT_bad (least n y : Nat) (h : 1114111 < y ∨ (55296 ≤ y ∧ y ≤ 57343)) : seenT least n (some y) = (65533, 1) := by
  have : okR y = false := by rw [Bool.eq_false_iff]; simp [okR]; omega
  simp [seenT, this]
theorem seenT_ok (least n y : Nat) (h : least ≤ y) (h1 : y ≤ 1114111) (h2 : ¬ (55296 ≤ y ∧ y ≤ 57343)) : seenT least n (some y) = (y, n) := by
  have : okR y = true := by simp [okR]; omega
  simp [seenT, this, h]
theorem index_at (s : ByteArray) (k : Nat) (w : World) (h : k + 1 < s.size) : (Instr.index 9 (.string s) (.int .i64 ((k : Int) + 1))).run Try.prog w = .ok (.int .u8 (((s[k + 1]'h).toNat : Nat) : Int)) w := by
  rw [run_index_string w 9 s .i64 _ Try.underlying9, dif_pos (by omega)]
  rfl

set_option maxHeartbeats 4000000 in
theorem first_any (s : ByteArray) (w : World) (h0 : 0 < s.size) (hS : s.size ≤ 1000000) : Calls Try.prog 24 #[.string s] w (RetF w (firstL (bl s))) := by
  have HT := Lib.hid (tail_any · ·)
  have hc := (s[(0 : Nat)]'h0).toNat_lt
  have Hb := Lib.hid (bl_cons s h0)
  have hlt : ((bl s).drop 1).length = s.size - 1 := by rw [List.length_drop, bl_len]
  by_cases a1 : (s[(0 : Nat)]'h0).toNat < 128
  · have HF : Hid (firstL (bl s) = ((s[(0 : Nat)]'h0).toNat, 1)) := Lib.hid (by rw [Hb.out]; simp [firstL, a1])
    generalize firstL (bl s) = p at *
    go_enter Try.func24, Try.ntmps24
    go_wp2_with fail
    go_ret2
    rw [HF.out]
    exact ⟨rfl, rfl⟩
  by_cases a5 : (s[(0 : Nat)]'h0).toNat < 192 ∨ 248 ≤ (s[(0 : Nat)]'h0).toNat
  · have HF : Hid (firstL (bl s) = (65533, 1)) := Lib.hid (by rw [Hb.out]; exact first_else _ _ (by omega) a5)
    generalize firstL (bl s) = p at *
    rcases a5 with a5 | a5
    all_goals
      go_enter Try.func24, Try.ntmps24
      go_wp2_with fail
      go_ret2
      rw [HF.out]
      exact ⟨rfl, rfl⟩
  by_cases a2 : (s[(0 : Nat)]'h0).toNat < 224
  · have HF := Lib.hid (first_two (s[(0 : Nat)]'h0) ((bl s).drop 1) (by omega) a2)
    rw [← Hb.out, hlt] at HF
    by_cases hz : s.size - 1 < 1
    · rw [if_pos hz] at HF
      generalize firstL (bl s) = p at *
      go_enter Try.func24, Try.ntmps24
      go_wp2_with fail
      go_ret2
      rw [HF.out]
      exact ⟨rfl, rfl⟩
    · rw [if_neg hz] at HF
      have hget : ∀ k, k + 1 < s.size → ∃ d : UInt8, ((bl s).drop 1)[k]? = some d ∧ (Instr.index 9 (.string s) (.int .i64 ((k : Int) + 1))).run Try.prog w = .ok (.int .u8 (d.toNat : Int)) w := fun k hk => ⟨s[k + 1]'hk, by rw [List.getElem?_drop, Nat.add_comm 1 k, bl_get s _ hk], index_at s k w hk⟩
      have hr0 : (s[(0 : Nat)]'h0).toNat - 192 < 32 := by omega
      have E0 := Lib.hid (show (((s[(0 : Nat)]'h0).toNat : Int) - 192) = (((s[(0 : Nat)]'h0).toNat - 192 : Nat) : Int) by omega)
      have : decide ((((s[(0 : Nat)]'h0).toNat : Nat) : Int) < 128) = false := by simp; omega
      have : decide (192 ≤ (((s[(0 : Nat)]'h0).toNat : Nat) : Int)) = true := by simp; omega
      have : decide ((((s[(0 : Nat)]'h0).toNat : Nat) : Int) < 224) = true := by simp; omega
      have : decide ((s.size : Int) < 2) = false := by simp; omega
      generalize (bl s).drop 1 = t at *
      generalize hz : accT ((s[(0 : Nat)]'h0).toNat - 192) (t.take 1) = z at *
      have HZ := Lib.hid hz
      clear hz
      generalize firstL (bl s) = p at *
      go_enter Try.func24, Try.ntmps24
      go_wp2_with fail
      go_loop [6, 8] (fun r i => ∃ k y : Nat, i = .int .i64 ((k : Int) + 1) ∧ r = .int .i32 (y : Int) ∧ k ≤ 1 ∧ (k = 0 → y < 32) ∧ (k = 1 → y < 2048) ∧ (k = 2 → y < 131072) ∧ (k = 3 → y < 8388608) ∧ Hid (z = accT y ((t.drop k).take (1 - k)))) (fun _ i => (2 - intOf i).toNat)
      case atStart => exact ⟨0, (s[(0 : Nat)]'h0).toNat - 192, rfl, by first | rfl | (rw [← E0.out]) , by omega, fun _ => hr0, fun h => absurd h (by omega), fun h => absurd h (by omega), fun h => absurd h (by omega), Lib.hid (by rw [← HZ.out]; simp)⟩
      case round =>
        obtain ⟨k, y, rfl, rfl, hk, y0, y1, y2, y3, HY⟩ := hrel
        by_cases hlt2 : k < 1
        · obtain ⟨d, hd, hix⟩ := hget k (by omega)
          have hdl := d.toNat_lt
          have HR := Lib.hid (accT_round HY.out hlt2 hd)
          clear hd
          by_cases ht : tailB d = true
          · have HR := Lib.hid (HR.out.1 ht)
            have hd2 : 128 ≤ d.toNat ∧ d.toNat < 192 := by simp [tailB] at ht; omega
            go_wp2_with fail
            refine (tail_any d _).mono ?_
            rw [ht]
            rintro e w' ⟨rfl, rfl⟩
            go_wp2_with fail
            go_round
            case rel => exact ⟨k + 1, y * 64 + (d.toNat - 128), by go_num, by go_num, by omega, by omega, by omega, by omega, by omega, HR⟩
            case measure => simp [intOf]; omega
          · have ht : tailB d = false := by simpa using ht
            have HR := Lib.hid (HR.out.2 ht)
            go_wp2_with fail
            refine (tail_any d _).mono ?_
            rw [ht]
            rintro e w' ⟨rfl, rfl⟩
            go_wp2_with fail
            go_ret2
            rw [HF.out, HR.out]
            exact ⟨rfl, rfl⟩
        · have HR := Lib.hid (accT_end HY.out (by omega))
          have hy : y < 8388608 := by omega
          rw [HR.out] at HF
          by_cases g1 : y < 128
          · have HF := Lib.hid (HF.out.trans (seenT_low 128 2 y g1))
            go_wp2_with fail
            all_goals (go_ret2; rw [HF.out]; exact ⟨rfl, rfl⟩)
          by_cases g2 : 1114111 < y
          · have HF := Lib.hid (HF.out.trans (seenT_bad 128 2 y (.inl g2)))
            go_wp2_with fail
            all_goals (go_ret2; rw [HF.out]; exact ⟨rfl, rfl⟩)
          by_cases g3 : 55296 ≤ y
          · by_cases g4 : y ≤ 57343
            · have HF := Lib.hid (HF.out.trans (seenT_bad 128 2 y (.inr ⟨g3, g4⟩)))
              go_wp2_with fail
              all_goals (go_ret2; rw [HF.out]; exact ⟨rfl, rfl⟩)
            · have HF := Lib.hid (HF.out.trans (seenT_ok 128 2 y (by omega) (by omega) (by omega)))
              go_wp2_with fail
              all_goals (go_ret2; rw [HF.out]; exact ⟨rfl, rfl⟩)
          · have HF := Lib.hid (HF.out.trans (seenT_ok 128 2 y (by omega) (by omega) (by omega)))
            go_wp2_with fail
            all_goals (go_ret2; rw [HF.out]; exact ⟨rfl, rfl⟩)
  by_cases a3 : (s[(0 : Nat)]'h0).toNat < 240
  · have HF := Lib.hid (first_three (s[(0 : Nat)]'h0) ((bl s).drop 1) (by omega) a3)
    rw [← Hb.out, hlt] at HF
    by_cases hz : s.size - 1 < 2
    · rw [if_pos hz] at HF
      generalize firstL (bl s) = p at *
      go_enter Try.func24, Try.ntmps24
      go_wp2_with fail
      go_ret2
      rw [HF.out]
      exact ⟨rfl, rfl⟩
    · rw [if_neg hz] at HF
      have hget : ∀ k, k + 1 < s.size → ∃ d : UInt8, ((bl s).drop 1)[k]? = some d ∧ (Instr.index 9 (.string s) (.int .i64 ((k : Int) + 1))).run Try.prog w = .ok (.int .u8 (d.toNat : Int)) w := fun k hk => ⟨s[k + 1]'hk, by rw [List.getElem?_drop, Nat.add_comm 1 k, bl_get s _ hk], index_at s k w hk⟩
      have hr0 : (s[(0 : Nat)]'h0).toNat - 224 < 32 := by omega
      have E0 := Lib.hid (show (((s[(0 : Nat)]'h0).toNat : Int) - 224) = (((s[(0 : Nat)]'h0).toNat - 224 : Nat) : Int) by omega)
      have : decide ((((s[(0 : Nat)]'h0).toNat : Nat) : Int) < 128) = false := by simp; omega
      have : decide (192 ≤ (((s[(0 : Nat)]'h0).toNat : Nat) : Int)) = true := by simp; omega
      have : decide ((((s[(0 : Nat)]'h0).toNat : Nat) : Int) < 224) = false := by simp; omega
      have : decide (224 ≤ (((s[(0 : Nat)]'h0).toNat : Nat) : Int)) = true := by simp; omega
      have : decide ((((s[(0 : Nat)]'h0).toNat : Nat) : Int) < 240) = true := by simp; omega
      have : decide ((s.size : Int) < 3) = false := by simp; omega
      generalize (bl s).drop 1 = t at *
      generalize hz : accT ((s[(0 : Nat)]'h0).toNat - 224) (t.take 2) = z at *
      have HZ := Lib.hid hz
      clear hz
      generalize firstL (bl s) = p at *
      go_enter Try.func24, Try.ntmps24
      go_wp2_with fail
      go_loop [6, 8] (fun r i => ∃ k y : Nat, i = .int .i64 ((k : Int) + 1) ∧ r = .int .i32 (y : Int) ∧ k ≤ 2 ∧ (k = 0 → y < 32) ∧ (k = 1 → y < 2048) ∧ (k = 2 → y < 131072) ∧ (k = 3 → y < 8388608) ∧ Hid (z = accT y ((t.drop k).take (2 - k)))) (fun _ i => (3 - intOf i).toNat)
      case atStart => exact ⟨0, (s[(0 : Nat)]'h0).toNat - 224, rfl, by first | rfl | (rw [← E0.out]) , by omega, fun _ => hr0, fun h => absurd h (by omega), fun h => absurd h (by omega), fun h => absurd h (by omega), Lib.hid (by rw [← HZ.out]; simp)⟩
      case round =>
        obtain ⟨k, y, rfl, rfl, hk, y0, y1, y2, y3, HY⟩ := hrel
        by_cases hlt2 : k < 2
        · obtain ⟨d, hd, hix⟩ := hget k (by omega)
          have hdl := d.toNat_lt
          have HR := Lib.hid (accT_round HY.out hlt2 hd)
          clear hd
          by_cases ht : tailB d = true
          · have HR := Lib.hid (HR.out.1 ht)
            have hd2 : 128 ≤ d.toNat ∧ d.toNat < 192 := by simp [tailB] at ht; omega
            go_wp2_with fail
            refine (tail_any d _).mono ?_
            rw [ht]
            rintro e w' ⟨rfl, rfl⟩
            go_wp2_with fail
            go_round
            case rel => exact ⟨k + 1, y * 64 + (d.toNat - 128), by go_num, by go_num, by omega, by omega, by omega, by omega, by omega, HR⟩
            case measure => simp [intOf]; omega
          · have ht : tailB d = false := by simpa using ht
            have HR := Lib.hid (HR.out.2 ht)
            go_wp2_with fail
            refine (tail_any d _).mono ?_
            rw [ht]
            rintro e w' ⟨rfl, rfl⟩
            go_wp2_with fail
            go_ret2
            rw [HF.out, HR.out]
            exact ⟨rfl, rfl⟩
        · have HR := Lib.hid (accT_end HY.out (by omega))
          have hy : y < 8388608 := by omega
          rw [HR.out] at HF
          by_cases g1 : y < 2048
          · have HF := Lib.hid (HF.out.trans (seenT_low 2048 3 y g1))
            go_wp2_with fail
            all_goals (go_ret2; rw [HF.out]; exact ⟨rfl, rfl⟩)
          by_cases g2 : 1114111 < y
          · have HF := Lib.hid (HF.out.trans (seenT_bad 2048 3 y (.inl g2)))
            go_wp2_with fail
            all_goals (go_ret2; rw [HF.out]; exact ⟨rfl, rfl⟩)
          by_cases g3 : 55296 ≤ y
          · by_cases g4 : y ≤ 57343
            · have HF := Lib.hid (HF.out.trans (seenT_bad 2048 3 y (.inr ⟨g3, g4⟩)))
              go_wp2_with fail
              all_goals (go_ret2; rw [HF.out]; exact ⟨rfl, rfl⟩)
            · have HF := Lib.hid (HF.out.trans (seenT_ok 2048 3 y (by omega) (by omega) (by omega)))
              go_wp2_with fail
              all_goals (go_ret2; rw [HF.out]; exact ⟨rfl, rfl⟩)
          · have HF := Lib.hid (HF.out.trans (seenT_ok 2048 3 y (by omega) (by omega) (by omega)))
            go_wp2_with fail
            all_goals (go_ret2; rw [HF.out]; exact ⟨rfl, rfl⟩)
  · have HF := Lib.hid (first_four (s[(0 : Nat)]'h0) ((bl s).drop 1) (by omega) (by omega))
    rw [← Hb.out, hlt] at HF
    by_cases hz : s.size - 1 < 3
    · rw [if_pos hz] at HF
      generalize firstL (bl s) = p at *
      go_enter Try.func24, Try.ntmps24
      go_wp2_with fail
      go_ret2
      rw [HF.out]
      exact ⟨rfl, rfl⟩
    · rw [if_neg hz] at HF
      have hget : ∀ k, k + 1 < s.size → ∃ d : UInt8, ((bl s).drop 1)[k]? = some d ∧ (Instr.index 9 (.string s) (.int .i64 ((k : Int) + 1))).run Try.prog w = .ok (.int .u8 (d.toNat : Int)) w := fun k hk => ⟨s[k + 1]'hk, by rw [List.getElem?_drop, Nat.add_comm 1 k, bl_get s _ hk], index_at s k w hk⟩
      have hr0 : (s[(0 : Nat)]'h0).toNat - 240 < 32 := by omega
      have E0 := Lib.hid (show (((s[(0 : Nat)]'h0).toNat : Int) - 240) = (((s[(0 : Nat)]'h0).toNat - 240 : Nat) : Int) by omega)
      have : decide ((((s[(0 : Nat)]'h0).toNat : Nat) : Int) < 128) = false := by simp; omega
      have : decide (192 ≤ (((s[(0 : Nat)]'h0).toNat : Nat) : Int)) = true := by simp; omega
      have : decide ((((s[(0 : Nat)]'h0).toNat : Nat) : Int) < 224) = false := by simp; omega
      have : decide (224 ≤ (((s[(0 : Nat)]'h0).toNat : Nat) : Int)) = true := by simp; omega
      have : decide ((((s[(0 : Nat)]'h0).toNat : Nat) : Int) < 240) = false := by simp; omega
      have : decide (240 ≤ (((s[(0 : Nat)]'h0).toNat : Nat) : Int)) = true := by simp; omega
      have : decide ((((s[(0 : Nat)]'h0).toNat : Nat) : Int) < 248) = true := by simp; omega
      have : decide ((s.size : Int) < 4) = false := by simp; omega
      generalize (bl s).drop 1 = t at *
      generalize hz : accT ((s[(0 : Nat)]'h0).toNat - 240) (t.take 3) = z at *
      have HZ := Lib.hid hz
      clear hz
      generalize firstL (bl s) = p at *
      go_enter Try.func24, Try.ntmps24
      go_wp2_with fail
      go_loop [6, 8] (fun r i => ∃ k y : Nat, i = .int .i64 ((k : Int) + 1) ∧ r = .int .i32 (y : Int) ∧ k ≤ 3 ∧ (k = 0 → y < 32) ∧ (k = 1 → y < 2048) ∧ (k = 2 → y < 131072) ∧ (k = 3 → y < 8388608) ∧ Hid (z = accT y ((t.drop k).take (3 - k)))) (fun _ i => (4 - intOf i).toNat)
      case atStart => exact ⟨0, (s[(0 : Nat)]'h0).toNat - 240, rfl, by first | rfl | (rw [← E0.out]) , by omega, fun _ => hr0, fun h => absurd h (by omega), fun h => absurd h (by omega), fun h => absurd h (by omega), Lib.hid (by rw [← HZ.out]; simp)⟩
      case round =>
        obtain ⟨k, y, rfl, rfl, hk, y0, y1, y2, y3, HY⟩ := hrel
        by_cases hlt2 : k < 3
        · obtain ⟨d, hd, hix⟩ := hget k (by omega)
          have hdl := d.toNat_lt
          have HR := Lib.hid (accT_round HY.out hlt2 hd)
          clear hd
          by_cases ht : tailB d = true
          · have HR := Lib.hid (HR.out.1 ht)
            have hd2 : 128 ≤ d.toNat ∧ d.toNat < 192 := by simp [tailB] at ht; omega
            go_wp2_with fail
            refine (tail_any d _).mono ?_
            rw [ht]
            rintro e w' ⟨rfl, rfl⟩
            go_wp2_with fail
            go_round
            case rel => exact ⟨k + 1, y * 64 + (d.toNat - 128), by go_num, by go_num, by omega, by omega, by omega, by omega, by omega, HR⟩
            case measure => simp [intOf]; omega
          · have ht : tailB d = false := by simpa using ht
            have HR := Lib.hid (HR.out.2 ht)
            go_wp2_with fail
            refine (tail_any d _).mono ?_
            rw [ht]
            rintro e w' ⟨rfl, rfl⟩
            go_wp2_with fail
            go_ret2
            rw [HF.out, HR.out]
            exact ⟨rfl, rfl⟩
        · have HR := Lib.hid (accT_end HY.out (by omega))
          have hy : y < 8388608 := by omega
          rw [HR.out] at HF
          by_cases g1 : y < 65536
          · have HF := Lib.hid (HF.out.trans (seenT_low 65536 4 y g1))
            go_wp2_with fail
            all_goals (go_ret2; rw [HF.out]; exact ⟨rfl, rfl⟩)
          by_cases g2 : 1114111 < y
          · have HF := Lib.hid (HF.out.trans (seenT_bad 65536 4 y (.inl g2)))
            go_wp2_with fail
            all_goals (go_ret2; rw [HF.out]; exact ⟨rfl, rfl⟩)
          by_cases g3 : 55296 ≤ y
          · by_cases g4 : y ≤ 57343
            · have HF := Lib.hid (HF.out.trans (seenT_bad 65536 4 y (.inr ⟨g3, g4⟩)))
              go_wp2_with fail
              all_goals (go_ret2; rw [HF.out]; exact ⟨rfl, rfl⟩)
            · have HF := Lib.hid (HF.out.trans (seenT_ok 65536 4 y (by omega) (by omega) (by omega)))
              go_wp2_with fail
              all_goals (go_ret2; rw [HF.out]; exact ⟨rfl, rfl⟩)
          · have HF := Lib.hid (HF.out.trans (seenT_ok 65536 4 y (by omega) (by omega) (by omega)))
            go_wp2_with fail
            all_goals (go_ret2; rw [HF.out]; exact ⟨rfl, rfl⟩)
end Go.Proofs.Ytleachcokgjocaa
