/-
  Queries' texts and what they lean on, part 5: only what the claims need.
-/
import Derived.Laws.Strings2
import Derived.Laws.Strings3
import Derived.Lib.OthersKept
import Derived.BigQuiet
import Derived.Test.YtjjlmkleidbmhaaGreatDoorProg
import Derived.Test.YtjjlmkleidbmhaaGreatDoorZ01
import Derived.Test.YtjjlmkleidbmhaaGreatDoorZ03
import Derived.Test.YtjjlmkleidbmhaaGreatDoorZ04
section
section
namespace Go.Proofs.YtjjlmkleidbmhaaGreatDoor
open Go.RowKit Go.Nst
set_option maxRecDepth 100000
set_option linter.unusedVariables false

theorem tail_any (u : UInt8) (w : World) : Calls Tryz.prog 138 #[.int .u8 (u.toNat : Int)] w fun e w' => e = .returned (.bool (tailB u)) ∧ w = w' := by
  have hu := u.toNat_lt
  have Hd := Lib.hid (show tailB u = (decide (128 ≤ u.toNat) && decide (u.toNat < 192)) from rfl)
  by_cases h1 : 128 ≤ u.toNat
  · by_cases h2 : u.toNat < 192
    all_goals
      go_enter Tryz.func138, Tryz.ntmps138
      go_wp2_with fail
      go_ret
      rw [Hd.out]
      simp [h1, h2] <;> omega
  · go_enter Tryz.func138, Tryz.ntmps138
    go_wp2_with fail
    go_ret
    rw [Hd.out]
    simp [h1] <;> omega

def bl (s : ByteArray) : List UInt8 := s.data.toList
theorem bl_len (s : ByteArray) : (bl s).length = s.size := Array.length_toList
theorem bl_get (s : ByteArray) (k : Nat) (h : k < s.size) : (bl s)[k]? = some (s[k]'h) := by
  have : k < (bl s).length := by rw [bl_len]; exact h
  rw [List.getElem?_eq_getElem this]
  rfl
theorem bl_mk (s : ByteArray) : ByteArray.mk (bl s).toArray = s := by cases s; simp [bl]

/-- the tails behind a rune's first byte -/
def accT (r : Nat) : List UInt8 → Option Nat
  | [] => some r
  | d :: t => if tailB d then accT (r * 64 + (d.toNat - 128)) t else none
def seenT (least n : Nat) : Option Nat → Nat × Nat
  | none => (65533, 1)
  | some r => if decide (least ≤ r) && okR r then (r, n) else (65533, 1)
theorem accT_lt : ∀ (t : List UInt8) (r : Nat) (v : Nat), accT r t = some v → v < (r + 1) * 64 ^ t.length
  | [], r, v, h => by simp [accT] at h; simp; omega
  | d :: t, r, v, h => by
    simp only [accT] at h
    split at h
    · have hd := d.toNat_lt
      have := accT_lt t _ v h
      have h2 : (r * 64 + (d.toNat - 128) + 1) * 64 ^ t.length ≤ ((r + 1) * 64) * 64 ^ t.length := by
        apply Nat.mul_le_mul_right
        have ht : tailB d = true := by assumption
        simp [tailB] at ht
        omega
      simp only [List.length_cons, Nat.pow_succ]
      have h3 : (r + 1) * (64 ^ t.length * 64) = (r + 1) * 64 * 64 ^ t.length := by
        rw [Nat.mul_comm (64 ^ t.length) 64, Nat.mul_assoc]
      omega
    · cases h
theorem first_two (c : UInt8) (t : List UInt8) (h1 : 192 ≤ c.toNat) (h2 : c.toNat < 224) : firstL (c :: t) = if t.length < 1 then (65533, 1) else seenT 128 2 (accT (c.toNat - 192) (t.take 1)) := by
  cases t with
  | nil => simp [firstL, h1, h2]; omega
  | cons d t =>
    have a : ¬ c.toNat < 128 := by omega
    have hd := d.toNat_lt
    by_cases t1 : tailB d = true
    · have ho : okR ((c.toNat - 192) * 64 + (d.toNat - 128)) = true := by simp [okR]; omega
      simp [firstL, h1, h2, a, accT, t1, seenT, ho]
    · simp [firstL, h1, h2, a, accT, t1, seenT]
theorem first_three (c : UInt8) (t : List UInt8) (h1 : 224 ≤ c.toNat) (h2 : c.toNat < 240) : firstL (c :: t) = if t.length < 2 then (65533, 1) else seenT 2048 3 (accT (c.toNat - 224) (t.take 2)) := by
  have a : ¬ c.toNat < 128 := by omega
  have b : ¬ (192 ≤ c.toNat ∧ c.toNat < 224) := by omega
  match t with
  | [] => simp [firstL, h1, h2, a, b]
  | [d] => simp [firstL, h1, h2, a, b]
  | d :: e :: t =>
    by_cases t1 : tailB d = true
    · by_cases t2 : tailB e = true
      · simp [firstL, h1, h2, a, b, accT, t1, t2, seenT]; omega
      · simp [firstL, h1, h2, a, b, accT, t1, t2, seenT]
    · simp [firstL, h1, h2, a, b, accT, t1, seenT]
theorem first_four (c : UInt8) (t : List UInt8) (h1 : 240 ≤ c.toNat) (h2 : c.toNat < 248) : firstL (c :: t) = if t.length < 3 then (65533, 1) else seenT 65536 4 (accT (c.toNat - 240) (t.take 3)) := by
  have a : ¬ c.toNat < 128 := by omega
  have b : ¬ (192 ≤ c.toNat ∧ c.toNat < 224) := by omega
  have b' : ¬ (224 ≤ c.toNat ∧ c.toNat < 240) := by omega
  match t with
  | [] => simp [firstL, h1, h2, a, b, b']
  | [d] => simp [firstL, h1, h2, a, b, b']
  | [d, e] => simp [firstL, h1, h2, a, b, b']
  | d :: e :: f :: t =>
    by_cases t1 : tailB d = true
    · by_cases t2 : tailB e = true
      · by_cases t3 : tailB f = true
        · simp [firstL, h1, h2, a, b, b', accT, t1, t2, t3, seenT]; omega
        · simp [firstL, h1, h2, a, b, b', accT, t1, t2, t3, seenT]
      · simp [firstL, h1, h2, a, b, b', accT, t1, t2, seenT]
    · simp [firstL, h1, h2, a, b, b', accT, t1, seenT]
theorem first_else (c : UInt8) (t : List UInt8) (h1 : 128 ≤ c.toNat) (h2 : c.toNat < 192 ∨ 248 ≤ c.toNat) : firstL (c :: t) = (65533, 1) := by
  have a : ¬ c.toNat < 128 := by omega
  have b : ¬ (192 ≤ c.toNat ∧ c.toNat < 224) := by omega
  have b' : ¬ (224 ≤ c.toNat ∧ c.toNat < 240) := by omega
  have b'' : ¬ (240 ≤ c.toNat ∧ c.toNat < 248) := by omega
  simp [firstL, a, b, b', b'']
end Go.Proofs.YtjjlmkleidbmhaaGreatDoor
end
section
namespace Go.Proofs.YtjjlmkleidbmhaaGreatDoor
open Go.RowKit Go.Nst
set_option maxRecDepth 100000
set_option linter.unusedVariables false

def RetF (w : World) (p : Nat × Nat) (e : Ending) (w' : World) : Prop := e = .returned (.tuple #[.int .i32 (p.1 : Int), .int .i64 (p.2 : Int)]) ∧ w = w'

theorem bl_cons (s : ByteArray) (h : 0 < s.size) : bl s = (s[(0 : Nat)]'h) :: (bl s).drop 1 := by
  have h1 := bl_get s 0 h
  have h2 : 0 < (bl s).length := by rw [bl_len]; exact h
  have h3 : (bl s)[0]'h2 = s[(0 : Nat)]'h := by rw [List.getElem?_eq_getElem h2] at h1; injection h1
  rw [← h3]
  exact (List.getElem_cons_drop h2).symm

theorem accT_round {k n : Nat} {t : List UInt8} {d : UInt8} {z : Option Nat} {y : Nat} (h : z = accT y ((t.drop k).take (n - k))) (hk : k < n) (hd : t[k]? = some d) :
    (tailB d = true → z = accT (y * 64 + (d.toNat - 128)) ((t.drop (k + 1)).take (n - (k + 1)))) ∧ (tailB d = false → z = none) := by
  obtain ⟨hl, hd⟩ := List.getElem?_eq_some_iff.1 hd
  have e1 : (t.drop k).take (n - k) = d :: (t.drop (k + 1)).take (n - (k + 1)) := by
    rw [← List.getElem_cons_drop hl, hd]
    obtain ⟨m, hm⟩ : ∃ m, n - k = m + 1 := ⟨n - k - 1, by omega⟩
    rw [hm, show n - (k + 1) = m by omega]
    rfl
  rw [e1] at h
  constructor
  · intro ht
    rw [h]
    simp [accT, ht]
  · intro ht
    rw [h]
    simp [accT, ht]
theorem accT_end {k n : Nat} {t : List UInt8} {z : Option Nat} {y : Nat} (h : z = accT y ((t.drop k).take (n - k))) (hk : n ≤ k) : z = some y := by
  rw [h, show n - k = 0 by omega]
  rfl

theorem seenT_low (least n y : Nat) (h : y < least) : seenT least n (some y) = (65533, 1) := by
  have : ¬ least ≤ y := by omega
  simp [seenT, this]
theorem seenT_bad (least n y : Nat) (h : 1114111 < y ∨ (55296 ≤ y ∧ y ≤ 57343)) : seenT least n (some y) = (65533, 1) := by
  have : okR y = false := by rw [Bool.eq_false_iff]; simp [okR]; omega
  simp [seenT, this]
theorem seenT_ok (least n y : Nat) (h : least ≤ y) (h1 : y ≤ 1114111) (h2 : ¬ (55296 ≤ y ∧ y ≤ 57343)) : seenT least n (some y) = (y, n) := by
  have : okR y = true := by simp [okR]; omega
  simp [seenT, this, h]
theorem index_at (s : ByteArray) (k : Nat) (w : World) (h : k + 1 < s.size) : (Instr.index 9 (.string s) (.int .i64 ((k : Int) + 1))).run Tryz.prog w = .ok (.int .u8 (((s[k + 1]'h).toNat : Nat) : Int)) w := by
  rw [run_index_string w 9 s .i64 _ Tryz.underlying9, dif_pos (by omega)]
  rfl

set_option maxHeartbeats 4000000 in
theorem first_any (s : ByteArray) (w : World) (h0 : 0 < s.size) (hS : s.size ≤ 10000000) : Calls Tryz.prog 120 #[.string s] w (RetF w (firstL (bl s))) := by
  have HT := Lib.hid (tail_any · ·)
  have hc := (s[(0 : Nat)]'h0).toNat_lt
  have Hb := Lib.hid (bl_cons s h0)
  have hlt : ((bl s).drop 1).length = s.size - 1 := by rw [List.length_drop, bl_len]
  by_cases a1 : (s[(0 : Nat)]'h0).toNat < 128
  · have HF : Hid (firstL (bl s) = ((s[(0 : Nat)]'h0).toNat, 1)) := Lib.hid (by rw [Hb.out]; simp [firstL, a1])
    generalize firstL (bl s) = p at *
    go_enter Tryz.func120, Tryz.ntmps120
    go_wp2_with fail
    go_ret2
    rw [HF.out]
    exact ⟨rfl, rfl⟩
  by_cases a5 : (s[(0 : Nat)]'h0).toNat < 192 ∨ 248 ≤ (s[(0 : Nat)]'h0).toNat
  · have HF : Hid (firstL (bl s) = (65533, 1)) := Lib.hid (by rw [Hb.out]; exact first_else _ _ (by omega) a5)
    generalize firstL (bl s) = p at *
    rcases a5 with a5 | a5
    all_goals
      go_enter Tryz.func120, Tryz.ntmps120
      go_wp2_with fail
      go_ret2
      rw [HF.out]
      exact ⟨rfl, rfl⟩
  by_cases a2 : (s[(0 : Nat)]'h0).toNat < 224
  · have HF := Lib.hid (first_two (s[(0 : Nat)]'h0) ((bl s).drop 1) (by omega) a2)
    rw [← Hb.out, hlt] at HF
    by_cases hz : s.size - 1 < 1
    · rw [if_pos hz] at HF
      generalize firstL (bl s) = p at *
      go_enter Tryz.func120, Tryz.ntmps120
      go_wp2_with fail
      go_ret2
      rw [HF.out]
      exact ⟨rfl, rfl⟩
    · rw [if_neg hz] at HF
      have hget : ∀ k, k + 1 < s.size → ∃ d : UInt8, ((bl s).drop 1)[k]? = some d ∧ (Instr.index 9 (.string s) (.int .i64 ((k : Int) + 1))).run Tryz.prog w = .ok (.int .u8 (d.toNat : Int)) w := fun k hk => ⟨s[k + 1]'hk, by rw [List.getElem?_drop, Nat.add_comm 1 k, bl_get s _ hk], index_at s k w hk⟩
      have hr0 : (s[(0 : Nat)]'h0).toNat - 192 < 32 := by omega
      have E0 := Lib.hid (show (((s[(0 : Nat)]'h0).toNat : Int) - 192) = (((s[(0 : Nat)]'h0).toNat - 192 : Nat) : Int) by omega)
      have : decide ((((s[(0 : Nat)]'h0).toNat : Nat) : Int) < 128) = false := by simp; omega
      have : decide (192 ≤ (((s[(0 : Nat)]'h0).toNat : Nat) : Int)) = true := by simp; omega
      have : decide ((((s[(0 : Nat)]'h0).toNat : Nat) : Int) < 224) = true := by simp; omega
      have : decide ((s.size : Int) < 2) = false := by simp; omega
      generalize (bl s).drop 1 = t at *
      generalize hz : accT ((s[(0 : Nat)]'h0).toNat - 192) (t.take 1) = z at *
      have HZ := Lib.hid hz
      clear hz
      generalize firstL (bl s) = p at *
      go_enter Tryz.func120, Tryz.ntmps120
      go_wp2_with fail
      go_loop [6, 8] (fun r i => ∃ k y : Nat, i = .int .i64 ((k : Int) + 1) ∧ r = .int .i32 (y : Int) ∧ k ≤ 1 ∧ (k = 0 → y < 32) ∧ (k = 1 → y < 2048) ∧ (k = 2 → y < 131072) ∧ (k = 3 → y < 8388608) ∧ Hid (z = accT y ((t.drop k).take (1 - k)))) (fun _ i => (2 - intOf i).toNat)
      case atStart => exact ⟨0, (s[(0 : Nat)]'h0).toNat - 192, rfl, by first | rfl | (rw [← E0.out]) , by omega, fun _ => hr0, fun h => absurd h (by omega), fun h => absurd h (by omega), fun h => absurd h (by omega), Lib.hid (by rw [← HZ.out]; simp)⟩
      case round =>
        obtain ⟨k, y, rfl, rfl, hk, y0, y1, y2, y3, HY⟩ := hrel
        by_cases hlt2 : k < 1
        · obtain ⟨d, hd, hix⟩ := hget k (by omega)
          have hdl := d.toNat_lt
          have HR := Lib.hid (accT_round HY.out hlt2 hd)
          clear hd
          by_cases ht : tailB d = true
          · have HR := Lib.hid (HR.out.1 ht)
            have hd2 : 128 ≤ d.toNat ∧ d.toNat < 192 := by simp [tailB] at ht; omega
            go_wp2_with fail
            refine (tail_any d _).mono ?_
            rw [ht]
            rintro e w' ⟨rfl, rfl⟩
            go_wp2_with fail
            go_round
            case rel => exact ⟨k + 1, y * 64 + (d.toNat - 128), by go_num, by go_num, by omega, by omega, by omega, by omega, by omega, HR⟩
            case measure => simp [intOf]; omega
          · have ht : tailB d = false := by simpa using ht
            have HR := Lib.hid (HR.out.2 ht)
            go_wp2_with fail
            refine (tail_any d _).mono ?_
            rw [ht]
            rintro e w' ⟨rfl, rfl⟩
            go_wp2_with fail
            go_ret2
            rw [HF.out, HR.out]
            exact ⟨rfl, rfl⟩
        · have HR := Lib.hid (accT_end HY.out (by omega))
          have hy : y < 8388608 := by omega
          rw [HR.out] at HF
          by_cases g1 : y < 128
          · have HF := Lib.hid (HF.out.trans (seenT_low 128 2 y g1))
            go_wp2_with fail
            all_goals (go_ret2; rw [HF.out]; exact ⟨rfl, rfl⟩)
          by_cases g2 : 1114111 < y
          · have HF := Lib.hid (HF.out.trans (seenT_bad 128 2 y (.inl g2)))
            go_wp2_with fail
            all_goals (go_ret2; rw [HF.out]; exact ⟨rfl, rfl⟩)
          by_cases g3 : 55296 ≤ y
          · by_cases g4 : y ≤ 57343
            · have HF := Lib.hid (HF.out.trans (seenT_bad 128 2 y (.inr ⟨g3, g4⟩)))
              go_wp2_with fail
              all_goals (go_ret2; rw [HF.out]; exact ⟨rfl, rfl⟩)
            · have HF := Lib.hid (HF.out.trans (seenT_ok 128 2 y (by omega) (by omega) (by omega)))
              go_wp2_with fail
              all_goals (go_ret2; rw [HF.out]; exact ⟨rfl, rfl⟩)
          · have HF := Lib.hid (HF.out.trans (seenT_ok 128 2 y (by omega) (by omega) (by omega)))
            go_wp2_with fail
            all_goals (go_ret2; rw [HF.out]; exact ⟨rfl, rfl⟩)
  by_cases a3 : (s[(0 : Nat)]'h0).toNat < 240
  · have HF := Lib.hid (first_three (s[(0 : Nat)]'h0) ((bl s).drop 1) (by omega) a3)
    rw [← Hb.out, hlt] at HF
    by_cases hz : s.size - 1 < 2
    · rw [if_pos hz] at HF
      generalize firstL (bl s) = p at *
      go_enter Tryz.func120, Tryz.ntmps120
      go_wp2_with fail
      go_ret2
      rw [HF.out]
      exact ⟨rfl, rfl⟩
    · rw [if_neg hz] at HF
      have hget : ∀ k, k + 1 < s.size → ∃ d : UInt8, ((bl s).drop 1)[k]? = some d ∧ (Instr.index 9 (.string s) (.int .i64 ((k : Int) + 1))).run Tryz.prog w = .ok (.int .u8 (d.toNat : Int)) w := fun k hk => ⟨s[k + 1]'hk, by rw [List.getElem?_drop, Nat.add_comm 1 k, bl_get s _ hk], index_at s k w hk⟩
      have hr0 : (s[(0 : Nat)]'h0).toNat - 224 < 32 := by omega
      have E0 := Lib.hid (show (((s[(0 : Nat)]'h0).toNat : Int) - 224) = (((s[(0 : Nat)]'h0).toNat - 224 : Nat) : Int) by omega)
      have : decide ((((s[(0 : Nat)]'h0).toNat : Nat) : Int) < 128) = false := by simp; omega
      have : decide (192 ≤ (((s[(0 : Nat)]'h0).toNat : Nat) : Int)) = true := by simp; omega
      have : decide ((((s[(0 : Nat)]'h0).toNat : Nat) : Int) < 224) = false := by simp; omega
      have : decide (224 ≤ (((s[(0 : Nat)]'h0).toNat : Nat) : Int)) = true := by simp; omega
      have : decide ((((s[(0 : Nat)]'h0).toNat : Nat) : Int) < 240) = true := by simp; omega
      have : decide ((s.size : Int) < 3) = false := by simp; omega
      generalize (bl s).drop 1 = t at *
      generalize hz : accT ((s[(0 : Nat)]'h0).toNat - 224) (t.take 2) = z at *
      have HZ := Lib.hid hz
      clear hz
      generalize firstL (bl s) = p at *
      go_enter Tryz.func120, Tryz.ntmps120
      go_wp2_with fail
      go_loop [6, 8] (fun r i => ∃ k y : Nat, i = .int .i64 ((k : Int) + 1) ∧ r = .int .i32 (y : Int) ∧ k ≤ 2 ∧ (k = 0 → y < 32) ∧ (k = 1 → y < 2048) ∧ (k = 2 → y < 131072) ∧ (k = 3 → y < 8388608) ∧ Hid (z = accT y ((t.drop k).take (2 - k)))) (fun _ i => (3 - intOf i).toNat)
      case atStart => exact ⟨0, (s[(0 : Nat)]'h0).toNat - 224, rfl, by first | rfl | (rw [← E0.out]) , by omega, fun _ => hr0, fun h => absurd h (by omega), fun h => absurd h (by omega), fun h => absurd h (by omega), Lib.hid (by rw [← HZ.out]; simp)⟩
      case round =>
        obtain ⟨k, y, rfl, rfl, hk, y0, y1, y2, y3, HY⟩ := hrel
        by_cases hlt2 : k < 2
        · obtain ⟨d, hd, hix⟩ := hget k (by omega)
          have hdl := d.toNat_lt
          have HR := Lib.hid (accT_round HY.out hlt2 hd)
          clear hd
          by_cases ht : tailB d = true
          · have HR := Lib.hid (HR.out.1 ht)
            have hd2 : 128 ≤ d.toNat ∧ d.toNat < 192 := by simp [tailB] at ht; omega
            go_wp2_with fail
            refine (tail_any d _).mono ?_
            rw [ht]
            rintro e w' ⟨rfl, rfl⟩
            go_wp2_with fail
            go_round
            case rel => exact ⟨k + 1, y * 64 + (d.toNat - 128), by go_num, by go_num, by omega, by omega, by omega, by omega, by omega, HR⟩
            case measure => simp [intOf]; omega
          · have ht : tailB d = false := by simpa using ht
            have HR := Lib.hid (HR.out.2 ht)
            go_wp2_with fail
            refine (tail_any d _).mono ?_
            rw [ht]
            rintro e w' ⟨rfl, rfl⟩
            go_wp2_with fail
            go_ret2
            rw [HF.out, HR.out]
            exact ⟨rfl, rfl⟩
        · have HR := Lib.hid (accT_end HY.out (by omega))
          have hy : y < 8388608 := by omega
          rw [HR.out] at HF
          by_cases g1 : y < 2048
          · have HF := Lib.hid (HF.out.trans (seenT_low 2048 3 y g1))
            go_wp2_with fail
            all_goals (go_ret2; rw [HF.out]; exact ⟨rfl, rfl⟩)
          by_cases g2 : 1114111 < y
          · have HF := Lib.hid (HF.out.trans (seenT_bad 2048 3 y (.inl g2)))
            go_wp2_with fail
            all_goals (go_ret2; rw [HF.out]; exact ⟨rfl, rfl⟩)
          by_cases g3 : 55296 ≤ y
          · by_cases g4 : y ≤ 57343
            · have HF := Lib.hid (HF.out.trans (seenT_bad 2048 3 y (.inr ⟨g3, g4⟩)))
              go_wp2_with fail
              all_goals (go_ret2; rw [HF.out]; exact ⟨rfl, rfl⟩)
            · have HF := Lib.hid (HF.out.trans (seenT_ok 2048 3 y (by omega) (by omega) (by omega)))
              go_wp2_with fail
              all_goals (go_ret2; rw [HF.out]; exact ⟨rfl, rfl⟩)
          · have HF := Lib.hid (HF.out.trans (seenT_ok 2048 3 y (by omega) (by omega) (by omega)))
            go_wp2_with fail
            all_goals (go_ret2; rw [HF.out]; exact ⟨rfl, rfl⟩)
  · have HF := Lib.hid (first_four (s[(0 : Nat)]'h0) ((bl s).drop 1) (by omega) (by omega))
    rw [← Hb.out, hlt] at HF
    by_cases hz : s.size - 1 < 3
    · rw [if_pos hz] at HF
      generalize firstL (bl s) = p at *
      go_enter Tryz.func120, Tryz.ntmps120
      go_wp2_with fail
      go_ret2
      rw [HF.out]
      exact ⟨rfl, rfl⟩
    · rw [if_neg hz] at HF
      have hget : ∀ k, k + 1 < s.size → ∃ d : UInt8, ((bl s).drop 1)[k]? = some d ∧ (Instr.index 9 (.string s) (.int .i64 ((k : Int) + 1))).run Tryz.prog w = .ok (.int .u8 (d.toNat : Int)) w := fun k hk => ⟨s[k + 1]'hk, by rw [List.getElem?_drop, Nat.add_comm 1 k, bl_get s _ hk], index_at s k w hk⟩
      have hr0 : (s[(0 : Nat)]'h0).toNat - 240 < 32 := by omega
      have E0 := Lib.hid (show (((s[(0 : Nat)]'h0).toNat : Int) - 240) = (((s[(0 : Nat)]'h0).toNat - 240 : Nat) : Int) by omega)
      have : decide ((((s[(0 : Nat)]'h0).toNat : Nat) : Int) < 128) = false := by simp; omega
      have : decide (192 ≤ (((s[(0 : Nat)]'h0).toNat : Nat) : Int)) = true := by simp; omega
      have : decide ((((s[(0 : Nat)]'h0).toNat : Nat) : Int) < 224) = false := by simp; omega
      have : decide (224 ≤ (((s[(0 : Nat)]'h0).toNat : Nat) : Int)) = true := by simp; omega
      have : decide ((((s[(0 : Nat)]'h0).toNat : Nat) : Int) < 240) = false := by simp; omega
      have : decide (240 ≤ (((s[(0 : Nat)]'h0).toNat : Nat) : Int)) = true := by simp; omega
      have : decide ((((s[(0 : Nat)]'h0).toNat : Nat) : Int) < 248) = true := by simp; omega
      have : decide ((s.size : Int) < 4) = false := by simp; omega
      generalize (bl s).drop 1 = t at *
      generalize hz : accT ((s[(0 : Nat)]'h0).toNat - 240) (t.take 3) = z at *
      have HZ := Lib.hid hz
      clear hz
      generalize firstL (bl s) = p at *
      go_enter Tryz.func120, Tryz.ntmps120
      go_wp2_with fail
      go_loop [6, 8] (fun r i => ∃ k y : Nat, i = .int .i64 ((k : Int) + 1) ∧ r = .int .i32 (y : Int) ∧ k ≤ 3 ∧ (k = 0 → y < 32) ∧ (k = 1 → y < 2048) ∧ (k = 2 → y < 131072) ∧ (k = 3 → y < 8388608) ∧ Hid (z = accT y ((t.drop k).take (3 - k)))) (fun _ i => (4 - intOf i).toNat)
      case atStart => exact ⟨0, (s[(0 : Nat)]'h0).toNat - 240, rfl, by first | rfl | (rw [← E0.out]) , by omega, fun _ => hr0, fun h => absurd h (by omega), fun h => absurd h (by omega), fun h => absurd h (by omega), Lib.hid (by rw [← HZ.out]; simp)⟩
      case round =>
        obtain ⟨k, y, rfl, rfl, hk, y0, y1, y2, y3, HY⟩ := hrel
        by_cases hlt2 : k < 3
        · obtain ⟨d, hd, hix⟩ := hget k (by omega)
          have hdl := d.toNat_lt
          have HR := Lib.hid (accT_round HY.out hlt2 hd)
          clear hd
          by_cases ht : tailB d = true
          · have HR := Lib.hid (HR.out.1 ht)
            have hd2 : 128 ≤ d.toNat ∧ d.toNat < 192 := by simp [tailB] at ht; omega
            go_wp2_with fail
            refine (tail_any d _).mono ?_
            rw [ht]
            rintro e w' ⟨rfl, rfl⟩
            go_wp2_with fail
            go_round
            case rel => exact ⟨k + 1, y * 64 + (d.toNat - 128), by go_num, by go_num, by omega, by omega, by omega, by omega, by omega, HR⟩
            case measure => simp [intOf]; omega
          · have ht : tailB d = false := by simpa using ht
            have HR := Lib.hid (HR.out.2 ht)
            go_wp2_with fail
            refine (tail_any d _).mono ?_
            rw [ht]
            rintro e w' ⟨rfl, rfl⟩
            go_wp2_with fail
            go_ret2
            rw [HF.out, HR.out]
            exact ⟨rfl, rfl⟩
        · have HR := Lib.hid (accT_end HY.out (by omega))
          have hy : y < 8388608 := by omega
          rw [HR.out] at HF
          by_cases g1 : y < 65536
          · have HF := Lib.hid (HF.out.trans (seenT_low 65536 4 y g1))
            go_wp2_with fail
            all_goals (go_ret2; rw [HF.out]; exact ⟨rfl, rfl⟩)
          by_cases g2 : 1114111 < y
          · have HF := Lib.hid (HF.out.trans (seenT_bad 65536 4 y (.inl g2)))
            go_wp2_with fail
            all_goals (go_ret2; rw [HF.out]; exact ⟨rfl, rfl⟩)
          by_cases g3 : 55296 ≤ y
          · by_cases g4 : y ≤ 57343
            · have HF := Lib.hid (HF.out.trans (seenT_bad 65536 4 y (.inr ⟨g3, g4⟩)))
              go_wp2_with fail
              all_goals (go_ret2; rw [HF.out]; exact ⟨rfl, rfl⟩)
            · have HF := Lib.hid (HF.out.trans (seenT_ok 65536 4 y (by omega) (by omega) (by omega)))
              go_wp2_with fail
              all_goals (go_ret2; rw [HF.out]; exact ⟨rfl, rfl⟩)
          · have HF := Lib.hid (HF.out.trans (seenT_ok 65536 4 y (by omega) (by omega) (by omega)))
            go_wp2_with fail
            all_goals (go_ret2; rw [HF.out]; exact ⟨rfl, rfl⟩)
end Go.Proofs.YtjjlmkleidbmhaaGreatDoor
end
section
namespace Go.Proofs.YtjjlmkleidbmhaaGreatDoor
open Go.RowKit Go.Nst
set_option maxRecDepth 100000
set_option linter.unusedVariables false

def rv (l : List Int) : List Value := l.map fun z => Value.int .i32 z
theorem rv_len (l : List Int) : (rv l).length = l.length := by simp [rv]
theorem rv_one (l : List Int) : ∀ u ∈ rv l, u.oneCell' = true := by
  intro u hu
  simp only [rv, List.mem_map] at hu
  obtain ⟨x, _, rfl⟩ := hu
  rfl
/-- a slice of runes reads as a list -/
def Rn (w : World) (A : Option Addr) (n : Nat) (l : List Int) : Prop := Reads w w.heap.size 1 A n (rv l)
theorem Rn.len {w : World} {A : Option Addr} {n : Nat} {l : List Int} (h : Rn w A n l) : l.length = n := by have := h.1; rw [rv_len] at this; omega
theorem Rn.below {w w' : World} {A : Option Addr} {n : Nat} {l : List Int} (h : Rn w A n l) (hb : Below w.heap.size w w') : Rn w' A n l := (Reads.below h hb).more hb.size
theorem Rn.at {w : World} {A : Option Addr} {n k : Nat} {l : List Int} (h : Rn w A n l) (hk : k < n) : ∃ (z : Int) (b off : Nat), A = some ⟨b, off, none⟩ ∧ Hid (l[k]? = some z) ∧ b < w.heap.size ∧ w.cell? ⟨b, off + k, none⟩ = some (.int .i32 z) := by
  obtain ⟨u, b, off, e, hu, hb, hc⟩ := Reads.plain h hk
  have hu' := hu.out
  rw [rv, List.getElem?_map, Option.map_eq_some_iff] at hu'
  obtain ⟨z, hz, rfl⟩ := hu'
  exact ⟨z, b, off, e, hz, hb, hc⟩
theorem Rn.const (w : World) (l : List Int) (cs : Array Value) (t : TypeId) (fr : Nat × Nat) (n : Nat) (hn : l.length = n) (hcs : cs.toList = rv l) : Rn (w.alloc (.cells cs t fr)) (some ⟨w.heap.size, 0, none⟩) n l := by
  refine ⟨by rw [rv_len]; omega, fun _ => ⟨_, rfl, by simp, fun j u hu => ?_⟩⟩
  rw [add_lit, Nat.zero_add, cell_of_row _ w.heap.size j cs t fr (heap_alloc_new w _)]
  rw [← hcs] at hu
  simpa using hu
/-- a row of runes of the call's own -/
def On (w : World) (base : Nat) (A : Option Addr) (n c : Nat) (l : List Int) : Prop := w.ownsRow base 21 1 (.slice A n c) n (rv l)
theorem On.rn {w : World} {base n c : Nat} {A : Option Addr} {l : List Int} (h : On w base A n c l) : Rn w A n l := Reads.of_own h
theorem On.nil {w : World} {base : Nat} : On w base none 0 0 [] := World.ownsRow_nil _ _ _ _
theorem On.blk {w : World} {base n c : Nat} {A : Option Addr} {l : List Int} (h : On w base A n c l) : ∀ k, (Value.slice A n c).ownBlock = some k → base ≤ k ∧ k < w.heap.size := h.lt
theorem On.mono {w : World} {base base' n c : Nat} {A : Option Addr} {l : List Int} (h : On w base A n c l) (hb : base' ≤ base) : On w base' A n c l := by
  refine ⟨h.1, ?_⟩
  rcases h.2 with h2 | ⟨g, cap, cur, hv, hg, r⟩
  · exact .inl h2
  · exact .inr ⟨g, cap, cur, hv, by omega, r⟩
theorem On.below {w w' : World} {base n c : Nat} {A : Option Addr} {l : List Int} (h : On w base A n c l) (hb : Below w.heap.size w w') : On w' base A n c l := by
  refine ⟨h.1, ?_⟩
  rcases h.2 with h2 | ⟨g, cap, cur, hv, hg, hh, r⟩
  · exact .inl h2
  · exact .inr ⟨g, cap, cur, hv, hg, (hb.block g (Array.getElem?_eq_some_iff.1 hh).1).trans hh, r⟩
/-- an iterator below the row moves on -/
theorem On.iterAt {w : World} {base n c : Nat} {A : Option Addr} {l : List Int} (h : On w base A n c l) {k : Nat} (hk : k < base) (s : ByteArray) (pos : Nat) : On (w.iterAt k s pos) base A n c l := by
  refine ⟨h.1, ?_⟩
  rcases h.2 with h2 | ⟨g, cap, cur, hv, hg, hh, r⟩
  · exact .inl h2
  · exact .inr ⟨g, cap, cur, hv, hg, (Lib.iterAt_other w k g s pos (by omega)).trans hh, r⟩
theorem iRunes : Info Tryz.prog 107 21 (.int .i32 0) 1 4 := Info.mk_ Tryz.underlying107 (by kernel_rfl) rfl (by omega)
/-- append of runes onto a row of runes of the call's own -/
theorem wpList_appR (w : World) {ops : Array Oper} {rest : List Oper} {o : Oper} {a : Act} {Q : Exit → Act → World → Prop} {s x : Operand} (hgd : o.guard = none)
    (ho : o.op = .call { callee := .builtin .append, args := #[s, x], argTypes := #[107, 107] })
    {base : Nat} {A0 : Option Addr} {n c0 : Nat} {l0 : List Int} (hs : a.eval s = .slice A0 n c0) (hown : On w base A0 n c0 l0)
    {A : Option Addr} {m c : Nat} {l : List Int} (hx : a.eval x = .slice A m c) (hr : Rn w A m l) (k : Nat) (lr : List Int) (hk : n + m = k) (hlr : l0 ++ l = lr)
    (hbytes : n + m ≤ 1000000000) (hbase : base ≤ w.heap.size)
    (h : ∀ A' c' w', On w' base A' k c' lr → Below base w w' → wpList Tryz.prog ops Q rest (a.put o.dst (.slice A' k c')) w') : wpList Tryz.prog ops Q (o :: rest) a w := by
  subst hk
  subst hlr
  exact wpList_app w iRunes hgd ho hs hown hx hr (rv_one _) (by unfold maxLen; omega) (by omega) hbase fun A' c' w' h2 h3 h4 =>
    h A' c' w' (by unfold On; rw [rv, List.map_append]; exact h2) ((Below.refl _ _).grown h3 hbase (fun k hk => (hown.blk k hk).1))

def RetRn (w : World) (l : List Int) (e : Ending) (w' : World) : Prop := ∃ A n c, e = .returned (.slice A n c) ∧ On w' w.heap.size A n c l ∧ Below w.heap.size w w'
theorem decode_bl (s : ByteArray) (pos : Nat) (h : pos < s.size) : Utf8.decode s pos = firstL ((bl s).drop pos) := by
  have := decode_first (bl s) pos (by rw [bl_len]; exact h)
  rwa [bl_mk] at this
theorem drop_ne {l : List UInt8} {pos : Nat} (h : pos < l.length) : l.drop pos ≠ [] := by
  intro e
  have := congrArg List.length e
  simp at this
  omega
end Go.Proofs.YtjjlmkleidbmhaaGreatDoor
end
section
namespace Go.Proofs.YtjjlmkleidbmhaaGreatDoor
open Go.RowKit Go.Nst
set_option maxRecDepth 100000
set_option linter.unusedVariables false

theorem runesI_len (l : List UInt8) : (runesI l).length = (runesL l).length := by simp [runesI]
theorem runesL_le (l : List UInt8) : (runesL l).length ≤ l.length := by
  have : ∀ (k : Nat) (l : List UInt8), (runesF k l).length ≤ l.length := by
    intro k
    induction k with
    | zero => intro l; simp [runesF]
    | succ k ih =>
      intro l
      cases l with
      | nil => simp [runesF]
      | cons c t =>
        have hw := firstL_width (c :: t) (by simp)
        have := ih ((c :: t).drop (firstL (c :: t)).2)
        simp only [runesF, List.length_cons]
        rw [List.length_drop] at this
        simp only [List.length_cons] at this
        omega
  exact this _ l
/-- a string's length -/
def strLen : Value → Nat
  | .string s => s.size
  | _ => 0

theorem bl_from (s : ByteArray) (i : Nat) : bl (s.extract i s.size) = (bl s).drop i := by
  unfold bl
  rw [ByteArray.data_extract]
  simp
  rw [List.take_of_length_le]
  rw [List.length_drop, Array.length_toList]
  exact Nat.le_refl _
theorem runes_round0 {l : List UInt8} {acc tot : List Int} (h : tot = acc ++ runesI l) (hp : l ≠ []) : tot = (acc ++ [((firstL l).1 : Int)]) ++ runesI (l.drop (firstL l).2) := by
  rw [h, runesI_step hp]
  simp
theorem runes_end0 {s : ByteArray} {acc tot : List Int} (h : tot = acc ++ runesI (bl s)) (hp : ¬ 0 < s.size) : tot = acc := by
  have : bl s = [] := List.eq_nil_of_length_eq_zero (by rw [bl_len]; omega)
  rw [h, this]
  simp [runesI, runesL_nil]
theorem bl_ne {s : ByteArray} (h : 0 < s.size) : bl s ≠ [] := by
  intro e
  have := bl_len s
  rw [e] at this
  simp at this
  omega
theorem size_from (s : ByteArray) (i : Nat) : (s.extract i s.size).size = s.size - i := by rw [← bl_len, bl_from, List.length_drop, bl_len]

set_option maxHeartbeats 2000000 in
theorem refRunes_any (s : ByteArray) (w : World) (hS : s.size ≤ 10000000) : Calls Tryz.prog 98 #[.string s] w (RetRn w (runesI (bl s))) := by
  have HT := Lib.hid (show runesI (bl s) = [] ++ runesI (bl s) from rfl)
  generalize ht : runesI (bl s) = tot at HT ⊢
  have HT : Hid (tot = [] ++ runesI (bl s)) := Lib.hid (by rw [ht]; rfl)
  clear ht
  go_enter Tryz.func98, Tryz.ntmps98
  go_wp2_with fail
  go_loopw [0, 3] (fun t v wr => ∃ (s' : ByteArray) (m : Nat) (A2 : Option Addr) (c2 : Nat) (acc : List Int), t = .string s' ∧ v = .slice A2 m c2 ∧ m + s'.size ≤ s.size ∧ On wr w.heap.size A2 m c2 acc ∧ Below w.heap.size w wr ∧ Hid (tot = acc ++ runesI (bl s'))) (fun t _ _ => strLen t)
  case atStart => exact ⟨s, 0, none, 0, [], rfl, rfl, by omega, On.nil, Below.refl _ _, HT⟩
  case round =>
    obtain ⟨s', m, A2, c2, acc, rfl, rfl, hm, hO, hbw, HR⟩ := hrel
    have hbl := bl_len s'
    by_cases hp : 0 < s'.size
    · have hw1 := firstL_width (bl s') (bl_ne hp)
      have HN := Lib.hid (runes_round0 HR.out (bl_ne hp))
      rw [← bl_from] at HN
      have HFst := Lib.hid (first_any s' wr hp (by omega))
      have hle : (firstL (bl s')).2 ≤ s'.size := by have := hw1.2.2; omega
      generalize firstL (bl s') = f at *
      have hO3 := hO.below (bel_alloc (Below.refl _ _) (.cells #[.int .i32 (f.1 : Int)] 21))
      have hB3 := Rn.const wr [(f.1 : Int)] #[.int .i32 (f.1 : Int)] 21 (0, 0) 1 rfl rfl
      have hbs := hbw.size
      have hszf := size_from s' f.2
      go_wp2_with fail
      refine HFst.out.mono ?_
      rintro e w1 ⟨rfl, rfl⟩
      go_wp2_with (at_builtin; refine wpList_appR _ rfl rfl rfl hO3 rfl hB3 (m + 1) (acc ++ [(f.1 : Int)]) rfl rfl (by omega) (by simp; omega) ?_; intro A' c' w' ho hb)
      go_roundw
      case rel => exact ⟨s'.extract f.2 s'.size, m + 1, A', c', acc ++ [(f.1 : Int)], by simp, rfl, by omega, ho, (hbw.alloc hbs _).trans hb, HN⟩
      case measure => simp [strLen]; omega
    · have HE := Lib.hid (runes_end0 HR.out hp)
      go_wp2_with fail
      go_ret
      rw [HE.out]
      exact ⟨A2, m, c2, rfl, hO, hbw⟩
end Go.Proofs.YtjjlmkleidbmhaaGreatDoor
end
section
namespace Go.Proofs.YtjjlmkleidbmhaaGreatDoor
open Go.RowKit Go.Nst
set_option maxRecDepth 100000
set_option linter.unusedVariables false

set_option maxHeartbeats 2000000 in
theorem refRight_any (s : ByteArray) (w : World) (hS : s.size ≤ 10000000) : Calls Tryz.prog 118 #[.string s] w fun e w' => e = .returned (.bool (rightL (bl s))) ∧ w = w' := by
  generalize ht : rightL (bl s) = tot
  have HT : Hid (tot = rightL (bl s)) := Lib.hid ht.symm
  clear ht
  go_enter Tryz.func118, Tryz.ntmps118
  go_wp2_with fail
  go_loop [0] (fun t => ∃ (s' : ByteArray), t = .string s' ∧ s'.size ≤ s.size ∧ Hid (tot = rightL (bl s'))) (fun t => strLen t)
  case atStart => exact ⟨s, rfl, by omega, HT⟩
  case round =>
    obtain ⟨s', rfl, hm, HR⟩ := hrel
    have hbl := bl_len s'
    by_cases hp : 0 < s'.size
    · have hw1 := firstL_width (bl s') (bl_ne hp)
      have HN := Lib.hid (HR.out.trans (rightL_step _ (bl_ne hp)))
      rw [← bl_from] at HN
      have HFst := Lib.hid (first_any s' w hp (by omega))
      have hle : (firstL (bl s')).2 ≤ s'.size := by have := hw1.2.2; omega
      have hr := (firstL_rune (bl s')).1
      generalize firstL (bl s') = f at *
      have hszf := size_from s' f.2
      by_cases c1 : f.1 = 65533
      · by_cases c2 : f.2 = 1
        · have HN : Hid (tot = false) := Lib.hid (by rw [HN.out]; simp [c1, c2])
          have d1 : ((f.1 : Int) == 65533) = true := by simp; omega
          have d2 : ((f.2 : Int) == 1) = true := by simp; omega
          go_wp2_with fail
          refine HFst.out.mono ?_
          rintro e w1 ⟨rfl, rfl⟩
          go_wp2_with fail
          go_ret
          rw [HN.out]
          exact ⟨rfl, rfl⟩
        · have HN : Hid (tot = rightL (bl (s'.extract f.2 s'.size))) := Lib.hid (by rw [HN.out]; simp [c1, c2])
          have d1 : ((f.1 : Int) == 65533) = true := by simp; omega
          have d2 : ((f.2 : Int) == 1) = false := by simp; omega
          go_wp2_with fail
          refine HFst.out.mono ?_
          rintro e w1 ⟨rfl, rfl⟩
          go_wp2_with fail
          go_round
          case rel => exact ⟨s'.extract f.2 s'.size, by simp, by omega, HN⟩
          case measure => simp [strLen]; omega
      · have HN : Hid (tot = rightL (bl (s'.extract f.2 s'.size))) := Lib.hid (by rw [HN.out]; simp [c1])
        have d1 : ((f.1 : Int) == 65533) = false := by simp; omega
        go_wp2_with fail
        refine HFst.out.mono ?_
        rintro e w1 ⟨rfl, rfl⟩
        go_wp2_with fail
        go_round
        case rel => exact ⟨s'.extract f.2 s'.size, by simp, by omega, HN⟩
        case measure => simp [strLen]; omega
    · have HE : Hid (tot = true) := Lib.hid (by rw [HR.out, show bl s' = [] from List.eq_nil_of_length_eq_zero (by omega)]; rfl)
      go_wp2_with fail
      go_ret
      rw [HE.out]
      exact ⟨rfl, rfl⟩

theorem pre_first (t : List UInt8) : firstL (239 :: 191 :: 189 :: t) = (65533, 3) := rfl
theorem first_three_bad (l : List UInt8) (h : (firstL l).1 = 65533) (h2 : (firstL l).2 ≠ 1) : ∃ t, l = 239 :: 191 :: 189 :: t := by
  cases l with
  | nil => exact absurd rfl h2
  | cons c t =>
    have hc := c.toNat_lt
    by_cases a1 : c.toNat < 128
    · simp [firstL, a1] at h2
    by_cases a5 : c.toNat < 192 ∨ 248 ≤ c.toNat
    · rw [first_else c t (by omega) a5] at h2
      exact absurd rfl h2
    have key : ∀ (least n r : Nat) (z : Option Nat), seenT least n z = (65533, r) → r ≠ 1 → z = some 65533 ∧ least ≤ 65533 := by
      intro least n r z hz hr
      cases z with
      | none => simp [seenT] at hz; exact absurd hz.symm hr
      | some y =>
        simp only [seenT] at hz
        split at hz
        · rename_i hh
          simp at hz hh
          exact ⟨by rw [hz.1], by omega⟩
        · simp at hz; exact absurd hz.symm hr
    have e0 : firstL (c :: t) = (65533, (firstL (c :: t)).2) := by rw [← h]
    by_cases a2 : c.toNat < 224
    · rw [first_two c t (by omega) a2] at e0 h2
      split at e0
      · rename_i hh; rw [if_pos hh] at h2; exact absurd rfl h2
      · rename_i hh
        rw [if_neg hh] at h2
        obtain ⟨hz, _⟩ := key _ _ _ _ e0 h2
        have := accT_lt _ _ _ hz
        have hl : (t.take 1).length ≤ 1 := by simp; omega
        have hp : 64 ^ (t.take 1).length ≤ 64 ^ 1 := Nat.pow_le_pow_right (by omega) hl
        have : (c.toNat - 192 + 1) * 64 ^ (t.take 1).length ≤ 32 * 64 ^ 1 := Nat.mul_le_mul (by omega) hp
        omega
    by_cases a3 : c.toNat < 240
    · rw [first_three c t (by omega) a3] at e0 h2
      split at e0
      · rename_i hh; rw [if_pos hh] at h2; exact absurd rfl h2
      · rename_i hh
        rw [if_neg hh] at h2
        obtain ⟨hz, _⟩ := key _ _ _ _ e0 h2
        match t, hh with
        | [], hh => simp at hh
        | [d], hh => simp at hh
        | d :: e :: t, _ =>
          have hd := d.toNat_lt
          have he := e.toNat_lt
          simp only [List.take, accT] at hz
          split at hz
          · rename_i t1
            split at hz
            · rename_i t2
              injection hz with hz
              simp [tailB] at t1 t2
              have q1 : c.toNat = 239 := by omega
              have q2 : d.toNat = 191 := by omega
              have q3 : e.toNat = 189 := by omega
              refine ⟨t, ?_⟩
              rw [show c = 239 from UInt8.toNat_inj.1 q1, show d = 191 from UInt8.toNat_inj.1 q2, show e = 189 from UInt8.toNat_inj.1 q3]
            · cases hz
          · cases hz
    · rw [first_four c t (by omega) (by omega)] at e0 h2
      split at e0
      · rename_i hh; rw [if_pos hh] at h2; exact absurd rfl h2
      · rename_i hh
        rw [if_neg hh] at h2
        obtain ⟨_, hb⟩ := key _ _ _ _ e0 h2
        omega
theorem first_bad (l : List UInt8) (h : (firstL l).1 = 65533) : Lib.hasPrefix l [239, 191, 189] = !((firstL l).2 == 1) := by
  by_cases h2 : (firstL l).2 = 1
  · rw [h2, show (!((1 : Nat) == 1)) = false from rfl, Bool.eq_false_iff]
    intro hp
    simp only [Lib.hasPrefix, List.isPrefixOf_iff_prefix] at hp
    obtain ⟨t, rfl⟩ := hp
    have := pre_first t
    simp only [List.cons_append, List.nil_append] at h2
    rw [this] at h2
    cases h2
  · obtain ⟨t, rfl⟩ := first_three_bad l h h2
    rw [pre_first]
    rfl

end Go.Proofs.YtjjlmkleidbmhaaGreatDoor
end
end
