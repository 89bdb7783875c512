/-
  The reader's Word.
-/
import Derived.Test.YtgklbejnbplbgaaDoorRead
import Derived.Test.YtgklbejnbplbgaaDoorCrcPlain
namespace Go.Proofs.YtgklbejnbplbgaaDoor
open Go.RowKit Go.Nst
set_option maxRecDepth 100000

/-- the number of bytes, the least first -/
def leN : List UInt8 → Nat
  | [] => 0
  | u :: l => u.toNat + 256 * leN l
def RetN (w : World) (g : Nat) (r : Nat × RS) (e : Ending) (w' : World) : Prop := e = .returned (.int .u32 (r.1 : Int)) ∧ Rd w' g r.2 ∧ w.grownBy w' (some g)
def RS.word (s : RS) : Nat × RS := (leN (s.take 4).1, (s.take 4).2)

theorem leN_snoc (a : List UInt8) (u : UInt8) : leN (a ++ [u]) = leN a + u.toNat * 256 ^ a.length := by
  induction a with
  | nil => simp [leN]
  | cons x a ih => simp only [List.cons_append, leN, ih, List.length_cons, Nat.pow_succ]; rw [Nat.mul_add, Nat.mul_left_comm, Nat.mul_comm (256 ^ a.length), Nat.add_assoc]
theorem leN_take {l : List UInt8} {k : Nat} {u : UInt8} (h : l[k]? = some u) : leN (l.take (k + 1)) = leN (l.take k) + u.toNat * 256 ^ k := by
  have hk : k < l.length := (List.getElem?_eq_some_iff.1 h).1
  rw [List.take_add_one, h]
  simp only [Option.toList_some]
  rw [leN_snoc, List.length_take, Nat.min_eq_left (by omega)]
theorem or_join (y u i : Nat) (hy : y < 2 ^ i) (hu : u * 2 ^ i < 4294967296) (hy2 : y < 4294967296) : bits .or .u32 (y : Int) ((u * 2 ^ i : Nat) : Int) = ((y + u * 2 ^ i : Nat) : Int) := by
  rw [u32_or_nat y (u * 2 ^ i) hy2 hu, Nat.or_comm, nat_join i (u * 2 ^ i) y (by simp) hy, Nat.add_comm]
theorem take4_len (s : RS) : (s.take 4).1.length ≤ 4 := by
  unfold RS.take
  split
  · simp
  · simp; omega
theorem word_round {l : List UInt8} {k y : Nat} {u : UInt8} (hu : l[k]? = some u) (hy : y = leN (l.take k)) (M : Nat) (hM : M = 256 ^ k) : y + u.toNat * M = leN (l.take (k + 1)) := by rw [leN_take hu, hy, hM]

set_option maxHeartbeats 400000 in
theorem readWord_any (g : Nat) (s : RS) (w : World) (hR : Rd w g s) :
    Calls Tryd.prog 33 #[.pointer (some ⟨g, 0, none⟩)] w (RetN w g s.word) := by
  have HW : Hid (s.word = (leN (s.take 4).1, (s.take 4).2)) := rfl
  have H4 := Lib.hid (take4_len s)
  go_enter Tryd.func33, Tryd.ntmps33
  go_wp2_with fail
  refine (take_any g s 4 w hR).mono ?_
  rintro e w1 ⟨A, n, c, rfl, hB, hR1, hg, hnc⟩
  generalize s.take 4 = r at *
  obtain ⟨l, s1⟩ := r
  simp only at *
  have hn4 : n ≤ 4 := by rw [← hB.len]; exact H4.out
  have HL := Lib.hid hB.len
  go_wp2_with fail
  go_loop [3, 9] (fun x i => ∃ k y : Nat, k ≤ n ∧ i = .int .i64 k ∧ x = .int .u32 (y : Int) ∧ y < 256 ^ k ∧ Hid (y = leN (l.take k))) (fun _ i => n - (intOf i).toNat)
  case atStart => exact ⟨0, 0, Nat.zero_le _, rfl, rfl, by omega, rfl⟩
  case round =>
    obtain ⟨k, y, hk, rfl, rfl, hy, HY⟩ := hrel
    by_cases hlt : k < n
    · obtain ⟨u, b, off, rfl, hu, hb, hc, h256⟩ := hB.at hlt
      have h4 : k = 0 ∨ k = 1 ∨ k = 2 ∨ k = 3 := by omega
      rcases h4 with rfl | rfl | rfl | rfl
      · rw [Nat.add_zero] at hc
        have HO := Lib.hid (or_join y u.toNat 0 hy (by omega) (by omega))
        have HN := Lib.hid (word_round hu.out HY.out 1 rfl)
        go_wp2_with fail
        refine ⟨⟨1, y + u.toNat * 1, by omega, rfl, ?_, by omega, HN⟩, by simp [intOf]; omega⟩
        exact congrArg (Value.int .u32) (by simpa using HO.out)
      · have HO := Lib.hid (or_join y u.toNat 8 hy (by omega) (by omega))
        have HN := Lib.hid (word_round hu.out HY.out 256 rfl)
        go_wp2_with fail
        refine ⟨⟨2, y + u.toNat * 256, by omega, rfl, ?_, by omega, HN⟩, by simp [intOf]; omega⟩
        exact congrArg (Value.int .u32) (by simpa using HO.out)
      · have HO := Lib.hid (or_join y u.toNat 16 hy (by omega) (by omega))
        have HN := Lib.hid (word_round hu.out HY.out 65536 rfl)
        go_wp2_with fail
        refine ⟨⟨3, y + u.toNat * 65536, by omega, rfl, ?_, by omega, HN⟩, by simp [intOf]; omega⟩
        exact congrArg (Value.int .u32) (by simpa using HO.out)
      · have HO := Lib.hid (or_join y u.toNat 24 hy (by omega) (by omega))
        have HN := Lib.hid (word_round hu.out HY.out 16777216 rfl)
        go_wp2_with fail
        refine ⟨⟨4, y + u.toNat * 16777216, by omega, rfl, ?_, by omega, HN⟩, by simp [intOf]; omega⟩
        exact congrArg (Value.int .u32) (by simpa using HO.out)
    · obtain rfl : k = n := by omega
      go_wp2_with fail
      go_ret
      rw [HW.out]
      exact ⟨by rw [HY.out, List.take_of_length_le (by have := HL.out; omega)]; rfl, hR1, hg⟩
end Go.Proofs.YtgklbejnbplbgaaDoor
