/-
  slices.Grow on nil, slices.Concat.
-/
import Derived.Test.YtgklbejnbplbgaaDoorNumA
import Derived.Lib.AppendZeros
namespace Go.Proofs.YtgklbejnbplbgaaDoor
open Go.RowKit Go.Nst
set_option maxRecDepth 100000

theorem grow_cells (w : World) (n : Nat) (cs : Array Value) (hcs : cs.size = grownCap w n 0 5) (hn : n ≤ maxLen) :
    Ow (w.drew.alloc (.cells cs 5)) w.heap.size (some ⟨w.heap.size, 0, none⟩) 0 (grownCap w n 0 5) [] :=
  ⟨by simp [bv], .inr ⟨w.heap.size, _, cs, rfl, Nat.le_refl _, heap_alloc_new w.drew _, Nat.zero_le _, grownCap_le_maxLen w n 0 _ hn, by omega, by simp [bv]⟩⟩

theorem grow_nil (n : Nat) (hn : n ≤ 140737488355328) (w : World) :
    Calls Tryd.prog 42 #[.slice none 0 0, .int .i64 n] w (RetB w []) := by
  by_cases h0 : n = 0
  · subst h0
    go_enter Tryd.func42, Tryd.ntmps42
    go_wp2_with fail
    try go_ret
    exact RetB.of rfl Ow.nil (Below.refl _ _)
  · obtain ⟨i0, hi0, hz0, hz1, hz2⟩ := iBytes.info
    have HR := Lib.hid (fun ty => Lib.run_append_nil_zeros (P := Tryd.prog) w 22 3 ty 5 i0 (.int .u8 0) .i64 .i64 iBytes.slice Tryd.underlying3 hi0 hz0 n (by omega) (by omega) (by omega) (by rw [hz2]; omega))
    have hge := grownCap_ge w n 0 5
    have HO := Lib.hid (grow_cells w n (Builtin.zeroCells (Value.int .u8 0).cells n ++ Builtin.zeroCells (Value.int .u8 0).cells (grownCap w n 0 5 - n)) (by simp [size_zeroCells, Value.cells]; omega) (by unfold maxLen; omega))
    generalize grownCap w n 0 5 = gc at *
    clear hz0 hz1 hz2 hi0
    go_enter Tryd.func42, Tryd.ntmps42
    go_wp2_with (at_builtin; refine Lib.wpList_append_run _ rfl _ _ _ _ rfl _ _ rfl rfl _ _ (HR.out _) ?_)
    try go_ret
    exact RetB.of rfl HO.out ((Below.refl _ _).drew.alloc (Nat.le_refl _) _)

/-- one of the parts of a Concat -/
structure Part where
  A : Option Addr
  n : Nat
  c : Nat
  l : List UInt8
def Part.val (p : Part) : Value := .slice p.A p.n p.c
def partSum (ps : List Part) : Nat := (ps.map (·.n)).sum
def partBytes (ps : List Part) : List UInt8 := ps.flatMap (·.l)
theorem partSum_snoc {ps : List Part} {k : Nat} {p : Part} (h : ps[k]? = some p) : partSum (ps.take (k + 1)) = partSum (ps.take k) + p.n := by
  rw [List.take_add_one, h]; simp [partSum]
theorem partBytes_snoc {ps : List Part} {k : Nat} {p : Part} (h : ps[k]? = some p) : partBytes (ps.take (k + 1)) = partBytes (ps.take k) ++ p.l := by
  rw [List.take_add_one, h]; simp [partBytes]
theorem partSum_le (ps : List Part) (k : Nat) : partSum (ps.take k) ≤ partSum ps := by
  induction ps generalizing k with
  | nil => simp [partSum]
  | cons p ps ih =>
    cases k with
    | zero => simp [partSum]
    | succ k => have := ih k; simp only [partSum, List.take_succ_cons, List.map_cons, List.sum_cons] at *; omega
theorem part_at {w : World} {B m : Nat} {A : Option Addr} {ps : List Part} {k : Nat} (hR : Reads w B 1 A m (ps.map Part.val)) (hk : k < m) :
    ∃ (p : Part) (b off : Nat), A = some ⟨b, off, none⟩ ∧ Hid (ps[k]? = some p) ∧ b < B ∧ w.cell? ⟨b, off + k, none⟩ = some (.slice p.A p.n p.c) := by
  obtain ⟨u, b, off, e, hu, hb, hc⟩ := hR.plain hk
  have hu := hu.out
  rw [List.getElem?_map, Option.map_eq_some_iff] at hu
  obtain ⟨p, hp, rfl⟩ := hu
  exact ⟨p, b, off, e, hp, hb, hc⟩

set_option maxHeartbeats 800000 in
theorem concat_any (A : Option Addr) (m c : Nat) (ps : List Part) (w : World) (hm : m ≤ 9223372036854775806) (hR : Reads w w.heap.size 1 A m (ps.map Part.val)) (hP : ∀ p ∈ ps, Bs w p.A p.n p.l) (hS : partSum ps ≤ 140737488355328) :
    Calls Tryd.prog 30 #[.slice A m c] w (RetB w (partBytes ps)) := by
  have HM := Lib.hid hR.1
  generalize hS0 : partSum ps = S at *
  have HS0 := Lib.hid hS0
  clear hS0
  go_enter Tryd.func30, Tryd.ntmps30
  go_wp2_with fail
  go_loop [3, 11] (fun x i => ∃ k y : Nat, k ≤ m ∧ i = .int .i64 k ∧ x = .int .i64 (y : Int) ∧ y ≤ S ∧ Hid (y = partSum (ps.take k))) (fun _ i => m - (intOf i).toNat)
  case atStart => exact ⟨0, 0, Nat.zero_le _, rfl, rfl, by omega, rfl⟩
  case round =>
    obtain ⟨k, y, hk, rfl, rfl, hy, HY⟩ := hrel
    by_cases hlt : k < m
    · obtain ⟨p, b, off, rfl, hp, hb, hc⟩ := part_at hR hlt
      have HN : Hid (y + p.n = partSum (ps.take (k + 1))) := by rw [partSum_snoc hp.out, ← HY.out]; rfl
      have hle : y + p.n ≤ S := by rw [HN.out, ← HS0.out]; exact partSum_le _ _
      generalize p.n = pn at *
      go_wp2_with fail
      go_round
      case rel => exact ⟨k + 1, y + pn, by omega, by go_num, by go_num, hle, HN⟩
      case measure => simp [intOf]; omega
    · obtain rfl : k = m := by omega
      have hyS : y = S := by rw [HY.out, ← HS0.out, List.take_of_length_le (by have := HM.out; simp at this; omega)]
      have HYS := Lib.hid hyS
      clear hyS
      go_wp2_with fail
      refine (grow_nil y (by omega) _).mono ?_
      rintro e w1 ⟨A1, n1, c1, rfl, ho1, hb1⟩
      have hn1 : n1 = 0 := by have := ho1.len; simpa using this.symm
      subst hn1
      go_wp2_with fail
      go_loopw [6, 27] (fun v i wr => ∃ (j y : Nat) (A2 : Option Addr) (c2 : Nat), j ≤ k ∧ i = .int .i64 j ∧ v = .slice A2 y c2 ∧ y ≤ S ∧ Hid (y = partSum (ps.take j)) ∧ Ow wr w.heap.size A2 y c2 (partBytes (ps.take j)) ∧ Below w.heap.size w wr) (fun _ i _ => k - (intOf i).toNat)
      case atStart => exact ⟨0, 0, A1, c1, Nat.zero_le _, rfl, rfl, by omega, rfl, ho1, hb1⟩
      case round =>
        obtain ⟨j, z, A2, c2, hj, rfl, rfl, hz, HZ, hO, hbw⟩ := hrel
        by_cases hlt : j < k
        · obtain ⟨p, b, off, rfl, hp, hb, hc⟩ := part_at (hR.below hbw) hlt
          have HN : Hid (z + p.n = partSum (ps.take (j + 1))) := by rw [partSum_snoc hp.out, ← HZ.out]; rfl
          have hle : z + p.n ≤ S := by rw [HN.out, ← HS0.out]; exact partSum_le _ _
          have hpb := (hP p (List.mem_of_getElem? hp.out)).below hbw
          have HB := Lib.hid (partBytes_snoc hp.out)
          have hbs := hbw.size
          obtain ⟨pA, pn, pc, pl⟩ := p
          simp only at *
          go_wp2_with (at_builtin; refine wpList_appB _ iBytes rfl rfl rfl hO rfl hpb (by omega) (by omega) ?_; intro A' c' w' ho hb _ _)
          rw [← HB.out] at ho
          go_roundw
          case rel => exact ⟨j + 1, z + pn, A', c', by omega, by go_num, rfl, hle, HN, ho, hbw.trans hb⟩
          case measure => simp [intOf]; omega
        · obtain rfl : j = k := by omega
          go_wp2_with fail
          try go_ret
          refine RetB.of rfl ?_ hbw
          rw [List.take_of_length_le (by have := HM.out; simp at this; omega)] at hO
          exact hO
end Go.Proofs.YtgklbejnbplbgaaDoor
