/-
  strings.Join of three words.
-/
import Derived.Test.YtobidipkgaaecaaDoorDtD
namespace Go.Proofs.YtobidipkgaaecaaDoor
open Go.RowKit Go.Nst
set_option maxRecDepth 100000
set_option linter.unusedVariables false
set_option linter.unusedSimpArgs false

set_option maxHeartbeats 8000000 in
theorem join3_any (gw : Nat) (a b c : List UInt8) (s : UInt8) (w : World) (hq : Blk w gw 9 #[.string ⟨a.toArray⟩, .string ⟨b.toArray⟩, .string ⟨c.toArray⟩]) (ha : a.length ≤ 100) (hb : b.length ≤ 100) (hc : c.length ≤ 100) :
    Calls Tryd.prog 32 #[.slice (some ⟨gw, 0, none⟩) 3 3, .string ⟨#[s]⟩] w (fun e w' => e = .returned (.string ⟨(a ++ s :: (b ++ s :: c)).toArray⟩) ∧ Below w.heap.size w w') := by
  have hg := hq.lt
  have q0 := hq.cell 0
  have q1 := hq.cell 1
  have q2 := hq.cell 2
  simp at q0 q1 q2
  go_enter Tryd.func32, Tryd.ntmps32
  go_wp2_with fail
  go_loop [5, 41] (fun t i => ∃ (k z : Nat), t = .int .i64 (z : Int) ∧ i = .int .i64 (k : Int) ∧ k ≤ 3 ∧ z ≤ 2 + 100 * k) (fun _ i => 3 - (intOf i).toNat)
  case atStart => exact ⟨0, 2, rfl, rfl, by omega, by omega⟩
  case round =>
    obtain ⟨k, z, rfl, rfl, hk, hz⟩ := hrel
    by_cases hk3 : k < 3
    · have hk4 : k = 0 ∨ k = 1 ∨ k = 2 := by omega
      rcases hk4 with rfl | rfl | rfl
      · have t1 : IntKind.i64.wrap (9223372036854775807 - (z : Int)) = 9223372036854775807 - (z : Int) := IntWalk.i64_in _ (by omega)
        have t2 : decide (9223372036854775807 - (z : Int) < (a.length : Int)) = false := by simp; omega
        have t3 : IntKind.i64.wrap ((z : Int) + (a.length : Int)) = ((z + a.length : Nat) : Int) := by rw [IntWalk.i64_in _ (by omega)]; rfl
        go_wp2_with fail
        go_round
        case rel => exact ⟨1, z + a.length, by go_num, by go_num, by omega, by omega⟩
        case measure => simp [intOf]
      · have t1 : IntKind.i64.wrap (9223372036854775807 - (z : Int)) = 9223372036854775807 - (z : Int) := IntWalk.i64_in _ (by omega)
        have t2 : decide (9223372036854775807 - (z : Int) < (b.length : Int)) = false := by simp; omega
        have t3 : IntKind.i64.wrap ((z : Int) + (b.length : Int)) = ((z + b.length : Nat) : Int) := by rw [IntWalk.i64_in _ (by omega)]; rfl
        go_wp2_with fail
        go_round
        case rel => exact ⟨2, z + b.length, by go_num, by go_num, by omega, by omega⟩
        case measure => simp [intOf]
      · have t1 : IntKind.i64.wrap (9223372036854775807 - (z : Int)) = 9223372036854775807 - (z : Int) := IntWalk.i64_in _ (by omega)
        have t2 : decide (9223372036854775807 - (z : Int) < (c.length : Int)) = false := by simp; omega
        have t3 : IntKind.i64.wrap ((z : Int) + (c.length : Int)) = ((z + c.length : Nat) : Int) := by rw [IntWalk.i64_in _ (by omega)]; rfl
        go_wp2_with fail
        go_round
        case rel => exact ⟨3, z + c.length, by go_num, by go_num, by omega, by omega⟩
        case measure => simp [intOf]
    · obtain rfl : k = 3 := by omega
      have B0 := bel_alloc (Below.refl w.heap.size w) (.cells #[.pointer none, .slice none 0 0] 66)
      have HG := Lib.hid (Tryd.Builder_Grow_fresh w.heap.size w.heap.size z (w.alloc (.cells #[.pointer none, .slice none 0 0] 66)) (Nat.le_refl _) (heap_alloc_new w _) B0.size (by omega))
      go_wp2_with fail
      (with_reducible refine (HG.out).mono ?_)
      rintro e w1 ⟨rfl, hG, hb1⟩
      have hB1 : Bd w1 w.heap.size w.heap.size [] := Or.inr (Lib.BuilderAtF.of hG)
      have B1 := B0.trans hb1
      have r0 := (B1.cell (p := ⟨gw, 0, none⟩) hg).trans q0
      clear hG hb1 B0 HG
      go_wp2_with fail
      (with_reducible refine (writeString_k w.heap.size w.heap.size [] a w1 hB1 (by simp; omega) B1.size).mono ?_)
      rintro e w2 ⟨rfl, hB2, hb2, _⟩
      have B2 := B1.trans hb2
      clear hB1 hb2 B1 r0
      go_wp2_with fail
      go_loopw [65] (fun i wr2 => ∃ (k : Nat) (L : List UInt8), i = .int .i64 (k : Int) ∧ k ≤ 2 ∧ Bd wr2 w.heap.size w.heap.size L ∧ Below w.heap.size w wr2 ∧ L.length ≤ 1000 ∧ (k = 0 → L = a) ∧ (k = 1 → L = a ++ s :: b) ∧ (k = 2 → L = a ++ s :: (b ++ s :: c))) (fun i _ => 2 - (intOf i).toNat)
      case atStart => exact ⟨0, a, rfl, by omega, by simpa using hB2, B2, by omega, fun _ => rfl, by omega, by omega⟩
      case round =>
        clear hB2 B2
        obtain ⟨k, L, rfl, hk, hB, hbw, hL, h0, h1, h2⟩ := hrel
        have r1 := (hbw.cell (p := ⟨gw, 1, none⟩) hg).trans q1
        have r2 := (hbw.cell (p := ⟨gw, 2, none⟩) hg).trans q2
        have hk4 : k = 0 ∨ k = 1 ∨ k = 2 := by omega
        rcases hk4 with rfl | rfl | rfl
        · obtain rfl := h0 rfl
          clear h0 h1 h2
          have HS := Lib.hid (writeString_k w.heap.size w.heap.size L [s] wr hB (by simp; omega) hbw.size)
          go_wp2_with fail
          (with_reducible refine (HS.out).mono ?_)
          rintro e w3 ⟨rfl, hB3, hb3, _⟩
          have B3 := hbw.trans hb3
          have HS2 := Lib.hid (writeString_k w.heap.size w.heap.size (L ++ [s]) b w3 hB3 (by simp; omega) B3.size)
          go_wp2_with fail
          (with_reducible refine (HS2.out).mono ?_)
          rintro e w4 ⟨rfl, hB4, hb4, _⟩
          have B4 := B3.trans hb4
          go_wp2_with fail
          go_roundw
          case rel => exact ⟨1, L ++ s :: b, by go_num, by omega, by simpa using hB4, B4, by simp; omega, by omega, fun _ => rfl, by omega⟩
          case measure => simp [intOf]
        · obtain rfl := h1 rfl
          clear h0 h1 h2
          have HS := Lib.hid (writeString_k w.heap.size w.heap.size (a ++ s :: b) [s] wr hB (by simp; omega) hbw.size)
          go_wp2_with fail
          (with_reducible refine (HS.out).mono ?_)
          rintro e w3 ⟨rfl, hB3, hb3, _⟩
          have B3 := hbw.trans hb3
          have HS2 := Lib.hid (writeString_k w.heap.size w.heap.size (a ++ s :: b ++ [s]) c w3 hB3 (by simp; omega) B3.size)
          go_wp2_with fail
          (with_reducible refine (HS2.out).mono ?_)
          rintro e w4 ⟨rfl, hB4, hb4, _⟩
          have B4 := B3.trans hb4
          go_wp2_with fail
          go_roundw
          case rel => exact ⟨2, a ++ s :: (b ++ s :: c), by go_num, by omega, by simpa using hB4, B4, by simp; omega, by omega, by omega, fun _ => rfl⟩
          case measure => simp [intOf]
        · obtain rfl := h2 rfl
          clear h0 h1 h2
          have HS := Lib.hid (bString_k w.heap.size w.heap.size _ wr hB hbw.size)
          go_wp2_with fail
          (with_reducible refine (HS.out).mono ?_)
          rintro e w3 ⟨rfl, hB3, hb3, _⟩
          go_wp2_with fail
          go_ret
          exact ⟨rfl, hbw.trans hb3⟩
end Go.Proofs.YtobidipkgaaecaaDoor
