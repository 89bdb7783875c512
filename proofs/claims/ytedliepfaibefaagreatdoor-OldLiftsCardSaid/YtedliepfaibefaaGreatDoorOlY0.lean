/-
  OldLifts, where the second format holds 0 (printed by gen_oldl.py).
-/
import Derived.Test.YtedliepfaibefaaGreatDoorOlX
namespace Go.Proofs.YtedliepfaibefaaGreatDoor
open Go.RowKit Go.Nst
set_option maxRecDepth 100000
set_option linter.unusedVariables false
set_option linter.unusedSimpArgs false

set_option maxHeartbeats 4000000 in
theorem lifts_0_0 (v k a b n : Int) (s t : List UInt8) (w : World) (hs : s.length ≤ 2000) (ht : t.length ≤ 2000) (hN : Nms w)     (hL : secondO ⟨v, k, a, b, n, s, t⟩ = []) (hM : thirdO ⟨v, k, a, b, n, s, t⟩ = []) (hl : large16 s t = false) : Calls Tryz.prog 4 #[.agg (OC v k a b n s t)] w (RetTrue w) := by
  have HL := Lib.hid (fun W => large16_any v k a b n s t W (by omega) (by omega))
  have HV := Lib.hid (fun W h => lives16_any W h)
  have HS := Lib.hid (fun W h => second_any ⟨v, k, a, b, n, s, t⟩ W (by simp only; omega) (by simp only; omega) h)
  have HT := Lib.hid (fun W h => third_any ⟨v, k, a, b, n, s, t⟩ W (by simp only; omega) (by simp only; omega) h)
  have HS2 := Lib.hid (fun W => refSecond_any ⟨v, k, a, b, n, s, t⟩ W (by simp only; omega) (by simp only; omega))
  have HT2 := Lib.hid (fun W => refThird_any ⟨v, k, a, b, n, s, t⟩ W (by simp only; omega) (by simp only; omega))
  have HM1 := Lib.hid (fun A B m m2 c d W h1 h2 => same16_any [] (by simp) A B m m2 c d W h1 h2)
  have HM2 := Lib.hid (fun A B m m2 c d W h1 h2 => same14_any [] (by simp) A B m m2 c d W h1 h2)
  rw [hl] at HL
  rw [hL] at HS HS2
  rw [hM] at HT HT2
  have B0 := bel_alloc (Below.refl w.heap.size w) (.cells (OC v k a b n s t) 25)
  have hv0 := Blk.new w 25 (OC v k a b n s t)
  clear hL hM hl 
  simp only [OC, evV, List.length_cons, List.length_nil, Nat.zero_add] at *
  go_enter Tryz.func4, Tryz.ntmps4
  go_wp2_with fail
  (with_reducible refine (HL.out _).mono ?_)
  rintro e w1 ⟨rfl, hb1⟩
  have hv1 := hv0.below hb1 hv0.lt
  have B1 := bel_step B0 hb1
  have hN1 := hN.below B1
  clear hb1 B0 hv0
  go_wp2_with fail
  refine wp_region_seq (by kernel_rfl) [(0, true), (2, true), (1, false), (3, false), (4, true), (5, true)] (by kernel_rfl) rfl (by kernel_rfl) ?_
  intro w2 hb2
  have hv2 := hv1.below hb2 hv1.lt
  have B2 := bel_step B1 hb2
  have hN2 := hN.below B2
  have cv : ∀ W, Below w2.heap.size w2 W → Blk W w.heap.size 25 #[.int .i64 v, .int .i64 k, .int .i64 a, .int .i64 b, .int .i64 n, .string ⟨s.toArray⟩, .string ⟨t.toArray⟩] := fun W hW => hv2.below hW hv2.lt
  have c0 := fun W (hW : Below w2.heap.size w2 W) => (show W.cell? ⟨w.heap.size, 0, none⟩ = _ from ((cv W hW).cell 0).trans rfl)
  have c1 := fun W (hW : Below w2.heap.size w2 W) => (show W.cell? ⟨w.heap.size, 1, none⟩ = _ from ((cv W hW).cell 1).trans rfl)
  have c2 := fun W (hW : Below w2.heap.size w2 W) => (show W.cell? ⟨w.heap.size, 2, none⟩ = _ from ((cv W hW).cell 2).trans rfl)
  have c3 := fun W (hW : Below w2.heap.size w2 W) => (show W.cell? ⟨w.heap.size, 3, none⟩ = _ from ((cv W hW).cell 3).trans rfl)
  have c4 := fun W (hW : Below w2.heap.size w2 W) => (show W.cell? ⟨w.heap.size, 4, none⟩ = _ from ((cv W hW).cell 4).trans rfl)
  have c5 := fun W (hW : Below w2.heap.size w2 W) => (show W.cell? ⟨w.heap.size, 5, none⟩ = _ from ((cv W hW).cell 5).trans rfl)
  have c6 := fun W (hW : Below w2.heap.size w2 W) => (show W.cell? ⟨w.heap.size, 6, none⟩ = _ from ((cv W hW).cell 6).trans rfl)
  clear cv hv1 hb2 B1 hN1
  iterate 2 (refine wpSeq_take (o := ⟨_, _, _, _, _, _⟩) (v := ?_) rfl rfl ?_ ?_; rotate_left; (focus (intro W hW; go_simp; first | done | with_reducible rfl)); simp only [Act.put, List.setIfInBounds_toArray, List.set_cons_zero, List.set_cons_succ])
  clear c0 c1 c2 c3 c4 c5 c6
  refine wpSeq_exec (o := ⟨_, _, _, _, _, _⟩) rfl rfl (fun K hK => ?_)
  go_simp
  (with_reducible refine (HS.out w2 hN2).mono ?_)
  rintro e w3 ⟨A3, c3, rfl, ho3, hb3⟩
  go_wp2_with fail
  refine hK _ _ hb3 ?_
  clear hK K
  have hv3 := hv2.below hb3 hv2.lt
  have B3 := bel_step B2 hb3
  have hN3 := hN.below B3
  have hRa3 := Rw.of_own ho3
  clear hb3 hv2 B2 hN2 ho3
  refine wpSeq_exec (o := ⟨_, _, _, _, _, _⟩) rfl rfl (fun K hK => ?_)
  go_simp
  (with_reducible refine (HT.out w3 hN3).mono ?_)
  rintro e w4 ⟨A4, c4, rfl, ho4, hb4⟩
  go_wp2_with fail
  refine hK _ _ hb4 ?_
  clear hK K
  have hv4 := hv3.below hb4 hv3.lt
  have B4 := bel_step B3 hb4
  have hN4 := hN.below B4
  have hRa4 := hRa3.below hb4
  have hRb4 := Rw.of_own ho4
  clear hb4 hv3 B3 hN3 ho4 hRa3
  iterate 2 (refine wpSeq_take (o := ⟨_, _, _, _, _, _⟩) (v := ?_) rfl rfl ?_ ?_; rotate_left; (focus (intro W hW; go_simp; first | done | with_reducible rfl)); simp only [Act.put, List.setIfInBounds_toArray, List.set_cons_zero, List.set_cons_succ])
  refine wpSeq_nil ?_
  go_wp2_with fail
  (with_reducible refine (HV.out _ hN4).mono ?_)
  rintro e w5 ⟨rfl, hb5⟩
  have hv5 := hv4.below hb5 hv4.lt
  have B5 := bel_step B4 hb5
  have hRa5 := hRa4.below hb5
  have hRb5 := hRb4.below hb5
  have z0 := hv5.cell 0
  have z1 := hv5.cell 1
  have z2 := hv5.cell 2
  have z3 := hv5.cell 3
  have z4 := hv5.cell 4
  have z5 := hv5.cell 5
  have z6 := hv5.cell 6
  try simp only [OC] at z0 z1 z2 z3 z4 z5 z6
  simp at z0 z1 z2 z3 z4 z5 z6
  clear hb5 hv4 B4 hN4 hRa4 hRb4
  go_wp2_with fail
  (with_reducible refine (HS2.out _).mono ?_)
  rintro e w6 ⟨A6, c6, rfl, ho6, hb6⟩
  have hv6 := hv5.below hb6 hv5.lt
  have B6 := bel_step B5 hb6
  have hRa6 := hRa5.below hb6
  have hRb6 := hRb5.below hb6
  have hRc6 := Rw.of_own ho6
  clear hb6 hv5 B5 hRa5 hRb5 ho6 z0 z1 z2 z3 z4 z5 z6
  go_wp2_with fail
  (with_reducible refine (HM1.out _ _ 0 0 _ _ _ rfl rfl hRa6 hRc6).mono ?_)
  rintro e w7 ⟨rfl, hb7⟩
  have hv7 := hv6.below hb7 hv6.lt
  have B7 := bel_step B6 hb7
  have hRa7 := hRa6.below hb7
  have hRb7 := hRb6.below hb7
  have z0 := hv7.cell 0
  have z1 := hv7.cell 1
  have z2 := hv7.cell 2
  have z3 := hv7.cell 3
  have z4 := hv7.cell 4
  have z5 := hv7.cell 5
  have z6 := hv7.cell 6
  try simp only [OC] at z0 z1 z2 z3 z4 z5 z6
  simp at z0 z1 z2 z3 z4 z5 z6
  clear hb7 hv6 B6 hRa6 hRb6 hRc6
  go_wp2_with fail
  (with_reducible refine (HT2.out _).mono ?_)
  rintro e w8 ⟨A8, c8, rfl, ho8, hb8⟩
  have B8 := bel_step B7 hb8
  have hRa8 := hRa7.below hb8
  have hRb8 := hRb7.below hb8
  have hRc8 := Rw.of_own ho8
  clear hb8 hv7 B7 hRa7 hRb7 ho8 z0 z1 z2 z3 z4 z5 z6
  go_wp2_with fail
  (with_reducible refine (HM2.out _ _ 0 0 _ _ _ rfl rfl hRb8 hRc8).mono ?_)
  rintro e w9 ⟨rfl, hb9⟩
  have B9 := bel_step B8 hb9
  have hRa9 := hRa8.below hb9
  have hRb9 := hRb8.below hb9
  clear hb9 B8 hRa8 hRb8 hRc8 HS HT HS2 HT2 HM1 HM2 HV HL
  go_wp2_with fail
  go_loopw [5] (fun x wr => ∃ z : Int, 0 ≤ z ∧ z ≤ 0 ∧ x = .int .i64 z ∧ Below w9.heap.size w9 wr) (fun x _ => (0 - intOf x).toNat)
  case atStart => exact ⟨0, by omega, by omega, rfl, Below.refl _ _⟩
  case round =>
    obtain ⟨z, hz0, hz1, rfl, hbw⟩ := hrel
    rcases (by omega : z = 0) with rfl
    · obtain ⟨wl, hwl⟩ : ∃ wl, wl = wr := ⟨_, rfl⟩
      have Bl := hbw
      go_wp2_with fail
      go_loopw [6] (fun x wr2 => ∃ z : Int, 0 ≤ z ∧ z ≤ 0 ∧ x = .int .i64 z ∧ Below w9.heap.size w9 wr2) (fun x _ => (0 - intOf x).toNat)
      case atStart => exact ⟨0, by omega, by omega, rfl, Bl⟩
      case round =>
        obtain ⟨z, hz0, hz1, rfl, hbx⟩ := hrel
        rcases (by omega : z = 0) with rfl
        · go_wp2_with fail
          go_ret
          exact ⟨rfl, bel_step B9 hbx⟩
end Go.Proofs.YtedliepfaibefaaGreatDoor
