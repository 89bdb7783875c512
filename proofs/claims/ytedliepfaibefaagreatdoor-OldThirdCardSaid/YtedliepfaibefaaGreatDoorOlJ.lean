/-
  (one).next, of.
-/
import Derived.Test.YtedliepfaibefaaGreatDoorOlI
namespace Go.Proofs.YtedliepfaibefaaGreatDoor
open Go.RowKit Go.Nst
set_option maxRecDepth 100000
set_option linter.unusedVariables false
set_option linter.unusedSimpArgs false

def oneO (k a b n : Int) (s t : List UInt8) : List Ol :=
  if k = 1 then [⟨2, 3, a, 0, 0, shortT s 512, []⟩]
  else if k = 2 then [⟨2, 4, a, 0, 0, [], []⟩]
  else if k = 3 then [⟨2, 7, a, b, 0, shortT s 512, shortT t 256⟩]
  else if k = 4 then (if n < 0 ∨ 3 < n then [] else [⟨2, 8, a, 0, n % 2, [], []⟩, ⟨2, 9, a, 0, n / 2, [], []⟩])
  else match wordsL s with
    | [] => []
    | x :: _ => [⟨2, 10, a, 0, n, x, []⟩]
def lfO (o : Ol) : Value := lfTwo o.v o.k o.a o.b o.n o.s o.t
theorem lf_one (l : List Ol) : ∀ u ∈ l.map lfO, u.oneCell' = true := by
  intro u hu
  simp only [List.mem_map] at hu
  obtain ⟨x, _, rfl⟩ := hu
  rfl
set_option maxHeartbeats 4000000 in
theorem oneNext_1 (v a b n : Int) (s t : List UInt8) (w : World) (hs : s.length ≤ 10000) (ht : t.length ≤ 10000) : Calls Tryz.prog 142 #[.agg (OC v 1 a b n s t)] w (RetL w ([(⟨2, 3, a, 0, 0, shortT s 512, []⟩ : Ol)]).length (([(⟨2, 3, a, 0, 0, shortT s 512, []⟩ : Ol)]).map lfO)) := by
  have hv0 := Blk.new w 105 (OC v 1 a b n s t)
  have B0 := bel_alloc (Below.refl w.heap.size w) (.cells (OC v 1 a b n s t) 105)
  have HM := Lib.hid (fun W x1 x2 x3 x4 x5 x6 => made_any 0 x1 x2 x3 x4 x5 x6 W)
  simp only [OC] at *
  have HS := Lib.hid (fun W => short16_any s 512 W (by omega) (by omega) (by omega))
  generalize shortT s 512 = s1 at *
  go_enter Tryz.func142, Tryz.ntmps142
  go_wp2_with fail
  refine wp_region_seq (by kernel_rfl) [(0, true), (1, true), (2, true), (3, true), (4, false), (5, true), (6, false), (7, true)] (by kernel_rfl) rfl (by kernel_rfl) ?_
  intro w2 hb2
  have hv2 := hv0.below hb2 hv0.lt
  have B2 := bel_step B0 hb2
  have cv : ∀ W, Below w2.heap.size w2 W → Blk W w.heap.size 105 #[.int .i64 v, .int .i64 1, .int .i64 a, .int .i64 b, .int .i64 n, .string ⟨s.toArray⟩, .string ⟨t.toArray⟩] := fun W hW => hv2.below hW hv2.lt
  have c0 := fun W (hW : Below w2.heap.size w2 W) => (show W.cell? ⟨w.heap.size, 0, none⟩ = _ from ((cv W hW).cell 0).trans rfl)
  have c1 := fun W (hW : Below w2.heap.size w2 W) => (show W.cell? ⟨w.heap.size, 1, none⟩ = _ from ((cv W hW).cell 1).trans rfl)
  have c2 := fun W (hW : Below w2.heap.size w2 W) => (show W.cell? ⟨w.heap.size, 2, none⟩ = _ from ((cv W hW).cell 2).trans rfl)
  have c3 := fun W (hW : Below w2.heap.size w2 W) => (show W.cell? ⟨w.heap.size, 3, none⟩ = _ from ((cv W hW).cell 3).trans rfl)
  have c4 := fun W (hW : Below w2.heap.size w2 W) => (show W.cell? ⟨w.heap.size, 4, none⟩ = _ from ((cv W hW).cell 4).trans rfl)
  have c5 := fun W (hW : Below w2.heap.size w2 W) => (show W.cell? ⟨w.heap.size, 5, none⟩ = _ from ((cv W hW).cell 5).trans rfl)
  have c6 := fun W (hW : Below w2.heap.size w2 W) => (show W.cell? ⟨w.heap.size, 6, none⟩ = _ from ((cv W hW).cell 6).trans rfl)
  clear cv hv2 hb2 hv0 B0
  iterate 4 (refine wpSeq_take (o := ⟨_, _, _, _, _, _⟩) (v := ?_) rfl rfl ?_ ?_; rotate_left; (focus (intro W hW; go_simp; first | done | with_reducible rfl)); simp only [Act.put, List.setIfInBounds_toArray, List.set_cons_zero, List.set_cons_succ])
  refine wpSeq_exec (o := ⟨_, _, _, _, _, _⟩) rfl rfl (fun K hK => ?_)
  go_simp
  (with_reducible refine (HS.out w2).mono ?_)
  rintro e w3 ⟨rfl, hb3⟩
  go_wp2_with fail
  refine hK _ _ hb3 ?_
  clear hK K
  have B3 := bel_step B2 hb3
  iterate 1 (refine wpSeq_take (o := ⟨_, _, _, _, _, _⟩) (v := ?_) rfl rfl ?_ ?_; rotate_left; (focus (intro W hW; go_simp; first | done | with_reducible rfl)); simp only [Act.put, List.setIfInBounds_toArray, List.set_cons_zero, List.set_cons_succ])
  refine wpSeq_exec (o := ⟨_, _, _, _, _, _⟩) rfl rfl (fun K hK => ?_)
  go_simp
  (with_reducible refine (HM.out w3 _ _ _ _ _ _).mono ?_)
  rintro e w4 ⟨A4, c4_, rfl, ho4, hb4⟩
  go_wp2_with fail
  refine hK _ _ hb4 ?_
  clear hK K
  have B4 := bel_step B3 hb4
  iterate 1 (refine wpSeq_take (o := ⟨_, _, _, _, _, _⟩) (v := ?_) rfl rfl ?_ ?_; rotate_left; (focus (intro W hW; go_simp; first | done | with_reducible rfl)); simp only [Act.put, List.setIfInBounds_toArray, List.set_cons_zero, List.set_cons_succ])
  refine wpSeq_nil ?_
  go_wp2_with fail
  go_ret
  exact RetRow.of rfl (own_mono ho4 B3.size) B4
set_option maxHeartbeats 4000000 in
theorem oneNext_2 (v a b n : Int) (s t : List UInt8) (w : World) (hs : s.length ≤ 10000) (ht : t.length ≤ 10000) : Calls Tryz.prog 142 #[.agg (OC v 2 a b n s t)] w (RetL w ([(⟨2, 4, a, 0, 0, [], []⟩ : Ol)]).length (([(⟨2, 4, a, 0, 0, [], []⟩ : Ol)]).map lfO)) := by
  have hv0 := Blk.new w 105 (OC v 2 a b n s t)
  have B0 := bel_alloc (Below.refl w.heap.size w) (.cells (OC v 2 a b n s t) 105)
  have HM := Lib.hid (fun W x1 x2 x3 x4 x5 x6 => made_any 0 x1 x2 x3 x4 x5 x6 W)
  simp only [OC] at *
  go_enter Tryz.func142, Tryz.ntmps142
  go_wp2_with fail
  (with_reducible refine (HM.out _ _ _ _ _ _ _).mono ?_)
  rintro e w1 ⟨A1, c1, rfl, ho1, hb1⟩
  go_wp2_with fail
  go_ret
  exact RetRow.of rfl (own_mono ho1 (by simp)) (bel_step B0 hb1)
set_option maxHeartbeats 4000000 in
theorem oneNext_3 (v a b n : Int) (s t : List UInt8) (w : World) (hs : s.length ≤ 10000) (ht : t.length ≤ 10000) : Calls Tryz.prog 142 #[.agg (OC v 3 a b n s t)] w (RetL w ([(⟨2, 7, a, b, 0, shortT s 512, shortT t 256⟩ : Ol)]).length (([(⟨2, 7, a, b, 0, shortT s 512, shortT t 256⟩ : Ol)]).map lfO)) := by
  have hv0 := Blk.new w 105 (OC v 3 a b n s t)
  have B0 := bel_alloc (Below.refl w.heap.size w) (.cells (OC v 3 a b n s t) 105)
  have HM := Lib.hid (fun W x1 x2 x3 x4 x5 x6 => made_any 0 x1 x2 x3 x4 x5 x6 W)
  simp only [OC] at *
  have HS := Lib.hid (fun W => short16_any s 512 W (by omega) (by omega) (by omega))
  have HT := Lib.hid (fun W => short16_any t 256 W (by omega) (by omega) (by omega))
  generalize shortT s 512 = s1 at *
  generalize shortT t 256 = t1 at *
  go_enter Tryz.func142, Tryz.ntmps142
  go_wp2_with fail
  refine wp_region_seq (by kernel_rfl) [(0, true), (1, true), (2, true), (3, true), (4, true), (5, true), (7, true), (8, true), (6, false), (9, false), (10, true), (11, false), (12, true)] (by kernel_rfl) rfl (by kernel_rfl) ?_
  intro w2 hb2
  have hv2 := hv0.below hb2 hv0.lt
  have B2 := bel_step B0 hb2
  have cv : ∀ W, Below w2.heap.size w2 W → Blk W w.heap.size 105 #[.int .i64 v, .int .i64 3, .int .i64 a, .int .i64 b, .int .i64 n, .string ⟨s.toArray⟩, .string ⟨t.toArray⟩] := fun W hW => hv2.below hW hv2.lt
  have c0 := fun W (hW : Below w2.heap.size w2 W) => (show W.cell? ⟨w.heap.size, 0, none⟩ = _ from ((cv W hW).cell 0).trans rfl)
  have c1 := fun W (hW : Below w2.heap.size w2 W) => (show W.cell? ⟨w.heap.size, 1, none⟩ = _ from ((cv W hW).cell 1).trans rfl)
  have c2 := fun W (hW : Below w2.heap.size w2 W) => (show W.cell? ⟨w.heap.size, 2, none⟩ = _ from ((cv W hW).cell 2).trans rfl)
  have c3 := fun W (hW : Below w2.heap.size w2 W) => (show W.cell? ⟨w.heap.size, 3, none⟩ = _ from ((cv W hW).cell 3).trans rfl)
  have c4 := fun W (hW : Below w2.heap.size w2 W) => (show W.cell? ⟨w.heap.size, 4, none⟩ = _ from ((cv W hW).cell 4).trans rfl)
  have c5 := fun W (hW : Below w2.heap.size w2 W) => (show W.cell? ⟨w.heap.size, 5, none⟩ = _ from ((cv W hW).cell 5).trans rfl)
  have c6 := fun W (hW : Below w2.heap.size w2 W) => (show W.cell? ⟨w.heap.size, 6, none⟩ = _ from ((cv W hW).cell 6).trans rfl)
  clear cv hv2 hb2 hv0 B0
  iterate 8 (refine wpSeq_take (o := ⟨_, _, _, _, _, _⟩) (v := ?_) rfl rfl ?_ ?_; rotate_left; (focus (intro W hW; go_simp; first | done | with_reducible rfl)); simp only [Act.put, List.setIfInBounds_toArray, List.set_cons_zero, List.set_cons_succ])
  refine wpSeq_exec (o := ⟨_, _, _, _, _, _⟩) rfl rfl (fun K hK => ?_)
  go_simp
  (with_reducible refine (HS.out w2).mono ?_)
  rintro e w3 ⟨rfl, hb3⟩
  go_wp2_with fail
  refine hK _ _ hb3 ?_
  clear hK K
  have B3 := bel_step B2 hb3
  refine wpSeq_exec (o := ⟨_, _, _, _, _, _⟩) rfl rfl (fun K hK => ?_)
  go_simp
  (with_reducible refine (HT.out w3).mono ?_)
  rintro e w4 ⟨rfl, hb4⟩
  go_wp2_with fail
  refine hK _ _ hb4 ?_
  clear hK K
  have B4 := bel_step B3 hb4
  iterate 1 (refine wpSeq_take (o := ⟨_, _, _, _, _, _⟩) (v := ?_) rfl rfl ?_ ?_; rotate_left; (focus (intro W hW; go_simp; first | done | with_reducible rfl)); simp only [Act.put, List.setIfInBounds_toArray, List.set_cons_zero, List.set_cons_succ])
  refine wpSeq_exec (o := ⟨_, _, _, _, _, _⟩) rfl rfl (fun K hK => ?_)
  go_simp
  (with_reducible refine (HM.out w4 _ _ _ _ _ _).mono ?_)
  rintro e w5 ⟨A5, c5_, rfl, ho5, hb5⟩
  go_wp2_with fail
  refine hK _ _ hb5 ?_
  clear hK K
  have B5 := bel_step B4 hb5
  iterate 1 (refine wpSeq_take (o := ⟨_, _, _, _, _, _⟩) (v := ?_) rfl rfl ?_ ?_; rotate_left; (focus (intro W hW; go_simp; first | done | with_reducible rfl)); simp only [Act.put, List.setIfInBounds_toArray, List.set_cons_zero, List.set_cons_succ])
  refine wpSeq_nil ?_
  go_wp2_with fail
  go_ret
  exact RetRow.of rfl (own_mono ho5 B4.size) B5
set_option maxHeartbeats 4000000 in
theorem oneNext_4_no (v a b n : Int) (s t : List UInt8) (w : World) (hs : s.length ≤ 10000) (ht : t.length ≤ 10000) (hn : n < 0 ∨ 3 < n) : Calls Tryz.prog 142 #[.agg (OC v 4 a b n s t)] w (RetL w (([] : List Ol)).length ((([] : List Ol)).map lfO)) := by
  have hv0 := Blk.new w 105 (OC v 4 a b n s t)
  have B0 := bel_alloc (Below.refl w.heap.size w) (.cells (OC v 4 a b n s t) 105)
  have HM := Lib.hid (fun W x1 x2 x3 x4 x5 x6 => made_any 0 x1 x2 x3 x4 x5 x6 W)
  simp only [OC] at *
  by_cases h0 : n < 0
  · have d1 : decide (n < 0) = true := by simpa using h0
    clear h0 hn
    go_enter Tryz.func142, Tryz.ntmps142
    go_wp2_with fail
    go_ret
    exact RetRow.nil rfl B0
  · have d1 : decide (n < 0) = false := by simpa using h0
    have d2 : decide (3 < n) = true := by simp; omega
    clear h0 hn
    go_enter Tryz.func142, Tryz.ntmps142
    go_wp2_with fail
    go_ret
    exact RetRow.nil rfl B0
set_option maxHeartbeats 4000000 in
theorem oneNext_4_0 (v a b n : Int) (s t : List UInt8) (w : World) (hs : s.length ≤ 10000) (ht : t.length ≤ 10000) : Calls Tryz.prog 142 #[.agg (OC v 4 a b 0 s t)] w (RetL w ([(⟨2, 8, a, 0, 0, [], []⟩ : Ol), ⟨2, 9, a, 0, 0, [], []⟩]).length (([(⟨2, 8, a, 0, 0, [], []⟩ : Ol), ⟨2, 9, a, 0, 0, [], []⟩]).map lfO)) := by
  have hv0 := Blk.new w 105 (OC v 4 a b 0 s t)
  have B0 := bel_alloc (Below.refl w.heap.size w) (.cells (OC v 4 a b 0 s t) 105)
  have HM := Lib.hid (fun W x1 x2 x3 x4 x5 x6 => made_any 0 x1 x2 x3 x4 x5 x6 W)
  simp only [OC] at *
  go_enter Tryz.func142, Tryz.ntmps142
  go_wp2_with fail
  refine wp_region_seqR (fun x y => Below (w.heap.size + 1) x y) (fun _ => Below.refl _ _) (fun _ _ _ h k => h.trans k) (by kernel_rfl) [(0, true), (1, true), (2, true), (3, true), (4, true), (5, true), (7, true), (8, true), (9, true), (10, true), (11, true), (12, true), (6, false), (13, false), (14, false), (15, true)] (by kernel_rfl) rfl (by kernel_rfl) (Below.refl _ _).drew ?_
  intro w2 hb2
  have hz2 : w.heap.size + 1 ≤ w2.heap.size := by have := hb2.size; simp at this; omega
  have hv2 := hv0.below hb2 (by simp)
  have B2 : Below w.heap.size w w2 := B0.trans (hb2.mono (by omega))
  have cv : ∀ W, Below (w.heap.size + 1) w2 W → Blk W w.heap.size 105 #[.int .i64 v, .int .i64 4, .int .i64 a, .int .i64 b, .int .i64 0, .string ⟨s.toArray⟩, .string ⟨t.toArray⟩] := fun W hW => hv2.below hW (by omega)
  have c0 := fun W (hW : Below (w.heap.size + 1) w2 W) => (show W.cell? ⟨w.heap.size, 0, none⟩ = _ from ((cv W hW).cell 0).trans rfl)
  have c1 := fun W (hW : Below (w.heap.size + 1) w2 W) => (show W.cell? ⟨w.heap.size, 1, none⟩ = _ from ((cv W hW).cell 1).trans rfl)
  have c2 := fun W (hW : Below (w.heap.size + 1) w2 W) => (show W.cell? ⟨w.heap.size, 2, none⟩ = _ from ((cv W hW).cell 2).trans rfl)
  have c3 := fun W (hW : Below (w.heap.size + 1) w2 W) => (show W.cell? ⟨w.heap.size, 3, none⟩ = _ from ((cv W hW).cell 3).trans rfl)
  have c4 := fun W (hW : Below (w.heap.size + 1) w2 W) => (show W.cell? ⟨w.heap.size, 4, none⟩ = _ from ((cv W hW).cell 4).trans rfl)
  have c5 := fun W (hW : Below (w.heap.size + 1) w2 W) => (show W.cell? ⟨w.heap.size, 5, none⟩ = _ from ((cv W hW).cell 5).trans rfl)
  have c6 := fun W (hW : Below (w.heap.size + 1) w2 W) => (show W.cell? ⟨w.heap.size, 6, none⟩ = _ from ((cv W hW).cell 6).trans rfl)
  clear cv hv2 hb2 hv0 B0
  iterate 12 (refine wpSeqR_take (o := ⟨_, _, _, _, _, _⟩) (v := ?_) rfl rfl ?_ ?_; rotate_left; (focus (intro W hW; go_simp; first | done | with_reducible rfl)); simp only [Act.put, List.setIfInBounds_toArray, List.set_cons_zero, List.set_cons_succ])
  refine wpSeqR_exec (o := ⟨_, _, _, _, _, _⟩) rfl rfl (fun K hK => ?_)
  go_simp
  (with_reducible refine (HM.out w2 _ _ _ _ _ _).mono ?_)
  rintro e w3 ⟨A3, c3, rfl, ho3, hb3⟩
  go_wp2_with fail
  refine hK _ _ (hb3.mono hz2) ?_
  clear hK K
  have B3 := bel_step B2 hb3
  have hz3 : w.heap.size + 1 ≤ w3.heap.size := Nat.le_trans hz2 hb3.size
  refine wpSeqR_exec (o := ⟨_, _, _, _, _, _⟩) rfl rfl (fun K hK => ?_)
  go_simp
  (with_reducible refine (HM.out w3 _ _ _ _ _ _).mono ?_)
  rintro e w4 ⟨A4, c4, rfl, ho4, hb4⟩
  go_wp2_with fail
  refine hK _ _ (hb4.mono hz3) ?_
  clear hK K
  have B4 := bel_step B3 hb4
  have ho3' := own_below ho3 hb4
  refine wpSeqR_exec (o := ⟨_, _, _, _, _, _⟩) rfl rfl (fun K hK => ?_)
  refine wp_app _ iLift rfl rfl ho3' rfl (Reads.of_own ho4) (fun u hu => by rw [List.mem_singleton.1 hu]; rfl) (by unfold maxLen; omega) (by omega) (Nat.le_trans hb3.size hb4.size) ?_
  intro A5 c5 w5 ho5 hg5 _
  have hb5 : Below w2.heap.size w4 w5 := (Below.refl _ _).grown hg5 (by have := hb3.size; have := hb4.size; omega) (fun k hk => (World.ownsRow.lt ho3' k hk).1)
  refine hK _ _ (hb5.mono hz2) ?_
  clear hK K
  iterate 1 (refine wpSeqR_take (o := ⟨_, _, _, _, _, _⟩) (v := ?_) rfl rfl ?_ ?_; rotate_left; (focus (intro W hW; go_simp; first | done | with_reducible rfl)); simp only [Act.put, List.setIfInBounds_toArray, List.set_cons_zero, List.set_cons_succ])
  refine wpSeqR_nil ?_
  go_wp2_with fail
  go_ret
  exact RetRow.of rfl (own_mono ho5 B2.size) (B4.trans (hb5.mono B2.size))
set_option maxHeartbeats 4000000 in
theorem oneNext_4_1 (v a b n : Int) (s t : List UInt8) (w : World) (hs : s.length ≤ 10000) (ht : t.length ≤ 10000) : Calls Tryz.prog 142 #[.agg (OC v 4 a b 1 s t)] w (RetL w ([(⟨2, 8, a, 0, 1, [], []⟩ : Ol), ⟨2, 9, a, 0, 0, [], []⟩]).length (([(⟨2, 8, a, 0, 1, [], []⟩ : Ol), ⟨2, 9, a, 0, 0, [], []⟩]).map lfO)) := by
  have hv0 := Blk.new w 105 (OC v 4 a b 1 s t)
  have B0 := bel_alloc (Below.refl w.heap.size w) (.cells (OC v 4 a b 1 s t) 105)
  have HM := Lib.hid (fun W x1 x2 x3 x4 x5 x6 => made_any 0 x1 x2 x3 x4 x5 x6 W)
  simp only [OC] at *
  go_enter Tryz.func142, Tryz.ntmps142
  go_wp2_with fail
  refine wp_region_seqR (fun x y => Below (w.heap.size + 1) x y) (fun _ => Below.refl _ _) (fun _ _ _ h k => h.trans k) (by kernel_rfl) [(0, true), (1, true), (2, true), (3, true), (4, true), (5, true), (7, true), (8, true), (9, true), (10, true), (11, true), (12, true), (6, false), (13, false), (14, false), (15, true)] (by kernel_rfl) rfl (by kernel_rfl) (Below.refl _ _).drew ?_
  intro w2 hb2
  have hz2 : w.heap.size + 1 ≤ w2.heap.size := by have := hb2.size; simp at this; omega
  have hv2 := hv0.below hb2 (by simp)
  have B2 : Below w.heap.size w w2 := B0.trans (hb2.mono (by omega))
  have cv : ∀ W, Below (w.heap.size + 1) w2 W → Blk W w.heap.size 105 #[.int .i64 v, .int .i64 4, .int .i64 a, .int .i64 b, .int .i64 1, .string ⟨s.toArray⟩, .string ⟨t.toArray⟩] := fun W hW => hv2.below hW (by omega)
  have c0 := fun W (hW : Below (w.heap.size + 1) w2 W) => (show W.cell? ⟨w.heap.size, 0, none⟩ = _ from ((cv W hW).cell 0).trans rfl)
  have c1 := fun W (hW : Below (w.heap.size + 1) w2 W) => (show W.cell? ⟨w.heap.size, 1, none⟩ = _ from ((cv W hW).cell 1).trans rfl)
  have c2 := fun W (hW : Below (w.heap.size + 1) w2 W) => (show W.cell? ⟨w.heap.size, 2, none⟩ = _ from ((cv W hW).cell 2).trans rfl)
  have c3 := fun W (hW : Below (w.heap.size + 1) w2 W) => (show W.cell? ⟨w.heap.size, 3, none⟩ = _ from ((cv W hW).cell 3).trans rfl)
  have c4 := fun W (hW : Below (w.heap.size + 1) w2 W) => (show W.cell? ⟨w.heap.size, 4, none⟩ = _ from ((cv W hW).cell 4).trans rfl)
  have c5 := fun W (hW : Below (w.heap.size + 1) w2 W) => (show W.cell? ⟨w.heap.size, 5, none⟩ = _ from ((cv W hW).cell 5).trans rfl)
  have c6 := fun W (hW : Below (w.heap.size + 1) w2 W) => (show W.cell? ⟨w.heap.size, 6, none⟩ = _ from ((cv W hW).cell 6).trans rfl)
  clear cv hv2 hb2 hv0 B0
  iterate 12 (refine wpSeqR_take (o := ⟨_, _, _, _, _, _⟩) (v := ?_) rfl rfl ?_ ?_; rotate_left; (focus (intro W hW; go_simp; first | done | with_reducible rfl)); simp only [Act.put, List.setIfInBounds_toArray, List.set_cons_zero, List.set_cons_succ])
  refine wpSeqR_exec (o := ⟨_, _, _, _, _, _⟩) rfl rfl (fun K hK => ?_)
  go_simp
  (with_reducible refine (HM.out w2 _ _ _ _ _ _).mono ?_)
  rintro e w3 ⟨A3, c3, rfl, ho3, hb3⟩
  go_wp2_with fail
  refine hK _ _ (hb3.mono hz2) ?_
  clear hK K
  have B3 := bel_step B2 hb3
  have hz3 : w.heap.size + 1 ≤ w3.heap.size := Nat.le_trans hz2 hb3.size
  refine wpSeqR_exec (o := ⟨_, _, _, _, _, _⟩) rfl rfl (fun K hK => ?_)
  go_simp
  (with_reducible refine (HM.out w3 _ _ _ _ _ _).mono ?_)
  rintro e w4 ⟨A4, c4, rfl, ho4, hb4⟩
  go_wp2_with fail
  refine hK _ _ (hb4.mono hz3) ?_
  clear hK K
  have B4 := bel_step B3 hb4
  have ho3' := own_below ho3 hb4
  refine wpSeqR_exec (o := ⟨_, _, _, _, _, _⟩) rfl rfl (fun K hK => ?_)
  refine wp_app _ iLift rfl rfl ho3' rfl (Reads.of_own ho4) (fun u hu => by rw [List.mem_singleton.1 hu]; rfl) (by unfold maxLen; omega) (by omega) (Nat.le_trans hb3.size hb4.size) ?_
  intro A5 c5 w5 ho5 hg5 _
  have hb5 : Below w2.heap.size w4 w5 := (Below.refl _ _).grown hg5 (by have := hb3.size; have := hb4.size; omega) (fun k hk => (World.ownsRow.lt ho3' k hk).1)
  refine hK _ _ (hb5.mono hz2) ?_
  clear hK K
  iterate 1 (refine wpSeqR_take (o := ⟨_, _, _, _, _, _⟩) (v := ?_) rfl rfl ?_ ?_; rotate_left; (focus (intro W hW; go_simp; first | done | with_reducible rfl)); simp only [Act.put, List.setIfInBounds_toArray, List.set_cons_zero, List.set_cons_succ])
  refine wpSeqR_nil ?_
  go_wp2_with fail
  go_ret
  exact RetRow.of rfl (own_mono ho5 B2.size) (B4.trans (hb5.mono B2.size))
set_option maxHeartbeats 4000000 in
theorem oneNext_4_2 (v a b n : Int) (s t : List UInt8) (w : World) (hs : s.length ≤ 10000) (ht : t.length ≤ 10000) : Calls Tryz.prog 142 #[.agg (OC v 4 a b 2 s t)] w (RetL w ([(⟨2, 8, a, 0, 0, [], []⟩ : Ol), ⟨2, 9, a, 0, 1, [], []⟩]).length (([(⟨2, 8, a, 0, 0, [], []⟩ : Ol), ⟨2, 9, a, 0, 1, [], []⟩]).map lfO)) := by
  have hv0 := Blk.new w 105 (OC v 4 a b 2 s t)
  have B0 := bel_alloc (Below.refl w.heap.size w) (.cells (OC v 4 a b 2 s t) 105)
  have HM := Lib.hid (fun W x1 x2 x3 x4 x5 x6 => made_any 0 x1 x2 x3 x4 x5 x6 W)
  simp only [OC] at *
  go_enter Tryz.func142, Tryz.ntmps142
  go_wp2_with fail
  refine wp_region_seqR (fun x y => Below (w.heap.size + 1) x y) (fun _ => Below.refl _ _) (fun _ _ _ h k => h.trans k) (by kernel_rfl) [(0, true), (1, true), (2, true), (3, true), (4, true), (5, true), (7, true), (8, true), (9, true), (10, true), (11, true), (12, true), (6, false), (13, false), (14, false), (15, true)] (by kernel_rfl) rfl (by kernel_rfl) (Below.refl _ _).drew ?_
  intro w2 hb2
  have hz2 : w.heap.size + 1 ≤ w2.heap.size := by have := hb2.size; simp at this; omega
  have hv2 := hv0.below hb2 (by simp)
  have B2 : Below w.heap.size w w2 := B0.trans (hb2.mono (by omega))
  have cv : ∀ W, Below (w.heap.size + 1) w2 W → Blk W w.heap.size 105 #[.int .i64 v, .int .i64 4, .int .i64 a, .int .i64 b, .int .i64 2, .string ⟨s.toArray⟩, .string ⟨t.toArray⟩] := fun W hW => hv2.below hW (by omega)
  have c0 := fun W (hW : Below (w.heap.size + 1) w2 W) => (show W.cell? ⟨w.heap.size, 0, none⟩ = _ from ((cv W hW).cell 0).trans rfl)
  have c1 := fun W (hW : Below (w.heap.size + 1) w2 W) => (show W.cell? ⟨w.heap.size, 1, none⟩ = _ from ((cv W hW).cell 1).trans rfl)
  have c2 := fun W (hW : Below (w.heap.size + 1) w2 W) => (show W.cell? ⟨w.heap.size, 2, none⟩ = _ from ((cv W hW).cell 2).trans rfl)
  have c3 := fun W (hW : Below (w.heap.size + 1) w2 W) => (show W.cell? ⟨w.heap.size, 3, none⟩ = _ from ((cv W hW).cell 3).trans rfl)
  have c4 := fun W (hW : Below (w.heap.size + 1) w2 W) => (show W.cell? ⟨w.heap.size, 4, none⟩ = _ from ((cv W hW).cell 4).trans rfl)
  have c5 := fun W (hW : Below (w.heap.size + 1) w2 W) => (show W.cell? ⟨w.heap.size, 5, none⟩ = _ from ((cv W hW).cell 5).trans rfl)
  have c6 := fun W (hW : Below (w.heap.size + 1) w2 W) => (show W.cell? ⟨w.heap.size, 6, none⟩ = _ from ((cv W hW).cell 6).trans rfl)
  clear cv hv2 hb2 hv0 B0
  iterate 12 (refine wpSeqR_take (o := ⟨_, _, _, _, _, _⟩) (v := ?_) rfl rfl ?_ ?_; rotate_left; (focus (intro W hW; go_simp; first | done | with_reducible rfl)); simp only [Act.put, List.setIfInBounds_toArray, List.set_cons_zero, List.set_cons_succ])
  refine wpSeqR_exec (o := ⟨_, _, _, _, _, _⟩) rfl rfl (fun K hK => ?_)
  go_simp
  (with_reducible refine (HM.out w2 _ _ _ _ _ _).mono ?_)
  rintro e w3 ⟨A3, c3, rfl, ho3, hb3⟩
  go_wp2_with fail
  refine hK _ _ (hb3.mono hz2) ?_
  clear hK K
  have B3 := bel_step B2 hb3
  have hz3 : w.heap.size + 1 ≤ w3.heap.size := Nat.le_trans hz2 hb3.size
  refine wpSeqR_exec (o := ⟨_, _, _, _, _, _⟩) rfl rfl (fun K hK => ?_)
  go_simp
  (with_reducible refine (HM.out w3 _ _ _ _ _ _).mono ?_)
  rintro e w4 ⟨A4, c4, rfl, ho4, hb4⟩
  go_wp2_with fail
  refine hK _ _ (hb4.mono hz3) ?_
  clear hK K
  have B4 := bel_step B3 hb4
  have ho3' := own_below ho3 hb4
  refine wpSeqR_exec (o := ⟨_, _, _, _, _, _⟩) rfl rfl (fun K hK => ?_)
  refine wp_app _ iLift rfl rfl ho3' rfl (Reads.of_own ho4) (fun u hu => by rw [List.mem_singleton.1 hu]; rfl) (by unfold maxLen; omega) (by omega) (Nat.le_trans hb3.size hb4.size) ?_
  intro A5 c5 w5 ho5 hg5 _
  have hb5 : Below w2.heap.size w4 w5 := (Below.refl _ _).grown hg5 (by have := hb3.size; have := hb4.size; omega) (fun k hk => (World.ownsRow.lt ho3' k hk).1)
  refine hK _ _ (hb5.mono hz2) ?_
  clear hK K
  iterate 1 (refine wpSeqR_take (o := ⟨_, _, _, _, _, _⟩) (v := ?_) rfl rfl ?_ ?_; rotate_left; (focus (intro W hW; go_simp; first | done | with_reducible rfl)); simp only [Act.put, List.setIfInBounds_toArray, List.set_cons_zero, List.set_cons_succ])
  refine wpSeqR_nil ?_
  go_wp2_with fail
  go_ret
  exact RetRow.of rfl (own_mono ho5 B2.size) (B4.trans (hb5.mono B2.size))
set_option maxHeartbeats 4000000 in
theorem oneNext_4_3 (v a b n : Int) (s t : List UInt8) (w : World) (hs : s.length ≤ 10000) (ht : t.length ≤ 10000) : Calls Tryz.prog 142 #[.agg (OC v 4 a b 3 s t)] w (RetL w ([(⟨2, 8, a, 0, 1, [], []⟩ : Ol), ⟨2, 9, a, 0, 1, [], []⟩]).length (([(⟨2, 8, a, 0, 1, [], []⟩ : Ol), ⟨2, 9, a, 0, 1, [], []⟩]).map lfO)) := by
  have hv0 := Blk.new w 105 (OC v 4 a b 3 s t)
  have B0 := bel_alloc (Below.refl w.heap.size w) (.cells (OC v 4 a b 3 s t) 105)
  have HM := Lib.hid (fun W x1 x2 x3 x4 x5 x6 => made_any 0 x1 x2 x3 x4 x5 x6 W)
  simp only [OC] at *
  go_enter Tryz.func142, Tryz.ntmps142
  go_wp2_with fail
  refine wp_region_seqR (fun x y => Below (w.heap.size + 1) x y) (fun _ => Below.refl _ _) (fun _ _ _ h k => h.trans k) (by kernel_rfl) [(0, true), (1, true), (2, true), (3, true), (4, true), (5, true), (7, true), (8, true), (9, true), (10, true), (11, true), (12, true), (6, false), (13, false), (14, false), (15, true)] (by kernel_rfl) rfl (by kernel_rfl) (Below.refl _ _).drew ?_
  intro w2 hb2
  have hz2 : w.heap.size + 1 ≤ w2.heap.size := by have := hb2.size; simp at this; omega
  have hv2 := hv0.below hb2 (by simp)
  have B2 : Below w.heap.size w w2 := B0.trans (hb2.mono (by omega))
  have cv : ∀ W, Below (w.heap.size + 1) w2 W → Blk W w.heap.size 105 #[.int .i64 v, .int .i64 4, .int .i64 a, .int .i64 b, .int .i64 3, .string ⟨s.toArray⟩, .string ⟨t.toArray⟩] := fun W hW => hv2.below hW (by omega)
  have c0 := fun W (hW : Below (w.heap.size + 1) w2 W) => (show W.cell? ⟨w.heap.size, 0, none⟩ = _ from ((cv W hW).cell 0).trans rfl)
  have c1 := fun W (hW : Below (w.heap.size + 1) w2 W) => (show W.cell? ⟨w.heap.size, 1, none⟩ = _ from ((cv W hW).cell 1).trans rfl)
  have c2 := fun W (hW : Below (w.heap.size + 1) w2 W) => (show W.cell? ⟨w.heap.size, 2, none⟩ = _ from ((cv W hW).cell 2).trans rfl)
  have c3 := fun W (hW : Below (w.heap.size + 1) w2 W) => (show W.cell? ⟨w.heap.size, 3, none⟩ = _ from ((cv W hW).cell 3).trans rfl)
  have c4 := fun W (hW : Below (w.heap.size + 1) w2 W) => (show W.cell? ⟨w.heap.size, 4, none⟩ = _ from ((cv W hW).cell 4).trans rfl)
  have c5 := fun W (hW : Below (w.heap.size + 1) w2 W) => (show W.cell? ⟨w.heap.size, 5, none⟩ = _ from ((cv W hW).cell 5).trans rfl)
  have c6 := fun W (hW : Below (w.heap.size + 1) w2 W) => (show W.cell? ⟨w.heap.size, 6, none⟩ = _ from ((cv W hW).cell 6).trans rfl)
  clear cv hv2 hb2 hv0 B0
  iterate 12 (refine wpSeqR_take (o := ⟨_, _, _, _, _, _⟩) (v := ?_) rfl rfl ?_ ?_; rotate_left; (focus (intro W hW; go_simp; first | done | with_reducible rfl)); simp only [Act.put, List.setIfInBounds_toArray, List.set_cons_zero, List.set_cons_succ])
  refine wpSeqR_exec (o := ⟨_, _, _, _, _, _⟩) rfl rfl (fun K hK => ?_)
  go_simp
  (with_reducible refine (HM.out w2 _ _ _ _ _ _).mono ?_)
  rintro e w3 ⟨A3, c3, rfl, ho3, hb3⟩
  go_wp2_with fail
  refine hK _ _ (hb3.mono hz2) ?_
  clear hK K
  have B3 := bel_step B2 hb3
  have hz3 : w.heap.size + 1 ≤ w3.heap.size := Nat.le_trans hz2 hb3.size
  refine wpSeqR_exec (o := ⟨_, _, _, _, _, _⟩) rfl rfl (fun K hK => ?_)
  go_simp
  (with_reducible refine (HM.out w3 _ _ _ _ _ _).mono ?_)
  rintro e w4 ⟨A4, c4, rfl, ho4, hb4⟩
  go_wp2_with fail
  refine hK _ _ (hb4.mono hz3) ?_
  clear hK K
  have B4 := bel_step B3 hb4
  have ho3' := own_below ho3 hb4
  refine wpSeqR_exec (o := ⟨_, _, _, _, _, _⟩) rfl rfl (fun K hK => ?_)
  refine wp_app _ iLift rfl rfl ho3' rfl (Reads.of_own ho4) (fun u hu => by rw [List.mem_singleton.1 hu]; rfl) (by unfold maxLen; omega) (by omega) (Nat.le_trans hb3.size hb4.size) ?_
  intro A5 c5 w5 ho5 hg5 _
  have hb5 : Below w2.heap.size w4 w5 := (Below.refl _ _).grown hg5 (by have := hb3.size; have := hb4.size; omega) (fun k hk => (World.ownsRow.lt ho3' k hk).1)
  refine hK _ _ (hb5.mono hz2) ?_
  clear hK K
  iterate 1 (refine wpSeqR_take (o := ⟨_, _, _, _, _, _⟩) (v := ?_) rfl rfl ?_ ?_; rotate_left; (focus (intro W hW; go_simp; first | done | with_reducible rfl)); simp only [Act.put, List.setIfInBounds_toArray, List.set_cons_zero, List.set_cons_succ])
  refine wpSeqR_nil ?_
  go_wp2_with fail
  go_ret
  exact RetRow.of rfl (own_mono ho5 B2.size) (B4.trans (hb5.mono B2.size))
set_option maxHeartbeats 4000000 in
theorem oneNext_w_no (v a b n : Int) (s t : List UInt8) (w : World) (hs : s.length ≤ 10000) (ht : t.length ≤ 10000) (k : Int) (h1 : k ≠ 1) (h2 : k ≠ 2) (h3 : k ≠ 3) (h4 : k ≠ 4) (hw : wordsL s = []) : Calls Tryz.prog 142 #[.agg (OC v k a b n s t)] w (RetL w (([] : List Ol)).length ((([] : List Ol)).map lfO)) := by
  have hv0 := Blk.new w 105 (OC v k a b n s t)
  have B0 := bel_alloc (Below.refl w.heap.size w) (.cells (OC v k a b n s t) 105)
  have HM := Lib.hid (fun W x1 x2 x3 x4 x5 x6 => made_any 0 x1 x2 x3 x4 x5 x6 W)
  simp only [OC] at *
  have e1 : (k == 1) = false := by simpa using h1
  have e2 : (k == 2) = false := by simpa using h2
  have e3 : (k == 3) = false := by simpa using h3
  have e4 : (k == 4) = false := by simpa using h4
  have HW := Lib.hid (fun W => words_any s W (by omega))
  rw [hw] at HW
  clear h1 h2 h3 h4 hw
  go_enter Tryz.func142, Tryz.ntmps142
  go_wp2_with fail
  (with_reducible refine (HW.out _).mono ?_)
  rintro e w1 ⟨A1, n1, c1, rfl, ho1, hb1⟩
  have hn1 : n1 = 0 := by have := ho1.ss.len; simpa using this.symm
  subst hn1
  go_wp2_with fail
  go_ret
  exact RetRow.nil rfl (bel_step B0 hb1)
set_option maxHeartbeats 4000000 in
theorem oneNext_w_yes (v a b n : Int) (s t : List UInt8) (w : World) (hs : s.length ≤ 10000) (ht : t.length ≤ 10000) (k : Int) (h1 : k ≠ 1) (h2 : k ≠ 2) (h3 : k ≠ 3) (h4 : k ≠ 4) (x : List UInt8) (xs : List (List UInt8)) (hw : wordsL s = x :: xs) : Calls Tryz.prog 142 #[.agg (OC v k a b n s t)] w (RetL w ([(⟨2, 10, a, 0, n, x, []⟩ : Ol)]).length (([(⟨2, 10, a, 0, n, x, []⟩ : Ol)]).map lfO)) := by
  have hv0 := Blk.new w 105 (OC v k a b n s t)
  have B0 := bel_alloc (Below.refl w.heap.size w) (.cells (OC v k a b n s t) 105)
  have HM := Lib.hid (fun W x1 x2 x3 x4 x5 x6 => made_any 0 x1 x2 x3 x4 x5 x6 W)
  simp only [OC] at *
  have e1 : (k == 1) = false := by simpa using h1
  have e2 : (k == 2) = false := by simpa using h2
  have e3 : (k == 3) = false := by simpa using h3
  have e4 : (k == 4) = false := by simpa using h4
  have HW := Lib.hid (fun W => words_any s W (by omega))
  rw [hw] at HW
  clear h1 h2 h3 h4 hw
  go_enter Tryz.func142, Tryz.ntmps142
  go_wp2_with fail
  (with_reducible refine (HW.out _).mono ?_)
  rintro e w1 ⟨A1, n1, c1, rfl, ho1, hb1⟩
  have hv1 := hv0.below hb1 hv0.lt
  have B1 := bel_step B0 hb1
  have hn1 : 0 < n1 := by have := ho1.ss.len; rw [← this]; simp
  have hn1' : (0 : Int) < (n1 : Int) := by omega
  have d1 : ((n1 : Int) == 0) = false := by simp; omega
  have hss := ho1.ss
  clear hb1 hv0 B0 ho1
  go_wp2_with fail
  refine wp_region_seq (by kernel_rfl) [(0, true), (1, true), (2, true), (3, true), (4, true), (5, true), (6, true), (7, true), (8, false), (9, true)] (by kernel_rfl) rfl (by kernel_rfl) ?_
  intro w2 hb2
  have hv2 := hv1.below hb2 hv1.lt
  have B2 := bel_step B1 hb2
  have cv : ∀ W, Below w2.heap.size w2 W → Blk W w.heap.size 105 #[.int .i64 v, .int .i64 k, .int .i64 a, .int .i64 b, .int .i64 n, .string ⟨s.toArray⟩, .string ⟨t.toArray⟩] := fun W hW => hv2.below hW hv2.lt
  obtain ⟨y, g, off, rfl, hy, hgl, hc⟩ := Ss.at (hss.below hb2) hn1
  have hy := hy.out
  simp at hy
  subst hy
  rw [Nat.add_zero] at hc
  have hcW : ∀ W, Below w2.heap.size w2 W → W.cell? ⟨g, off, none⟩ = some (.string ⟨x.toArray⟩) := fun W hW => (hW.cell (p := ⟨g, off, none⟩) hgl).trans hc
  have c0 := fun W (hW : Below w2.heap.size w2 W) => (show W.cell? ⟨w.heap.size, 0, none⟩ = _ from ((cv W hW).cell 0).trans rfl)
  have c1 := fun W (hW : Below w2.heap.size w2 W) => (show W.cell? ⟨w.heap.size, 1, none⟩ = _ from ((cv W hW).cell 1).trans rfl)
  have c2 := fun W (hW : Below w2.heap.size w2 W) => (show W.cell? ⟨w.heap.size, 2, none⟩ = _ from ((cv W hW).cell 2).trans rfl)
  have c3 := fun W (hW : Below w2.heap.size w2 W) => (show W.cell? ⟨w.heap.size, 3, none⟩ = _ from ((cv W hW).cell 3).trans rfl)
  have c4 := fun W (hW : Below w2.heap.size w2 W) => (show W.cell? ⟨w.heap.size, 4, none⟩ = _ from ((cv W hW).cell 4).trans rfl)
  have c5 := fun W (hW : Below w2.heap.size w2 W) => (show W.cell? ⟨w.heap.size, 5, none⟩ = _ from ((cv W hW).cell 5).trans rfl)
  have c6 := fun W (hW : Below w2.heap.size w2 W) => (show W.cell? ⟨w.heap.size, 6, none⟩ = _ from ((cv W hW).cell 6).trans rfl)
  clear cv hv2 hb2 hv1 B1 hss hc
  iterate 8 (refine wpSeq_take (o := ⟨_, _, _, _, _, _⟩) (v := ?_) rfl rfl ?_ ?_; rotate_left; (focus (intro W hW; go_simp; first | done | with_reducible rfl)); simp only [Act.put, List.setIfInBounds_toArray, List.set_cons_zero, List.set_cons_succ])
  refine wpSeq_exec (o := ⟨_, _, _, _, _, _⟩) rfl rfl (fun K hK => ?_)
  go_simp
  (with_reducible refine (HM.out w2 _ _ _ _ _ _).mono ?_)
  rintro e w3 ⟨A3, c3_, rfl, ho3, hb3⟩
  go_wp2_with fail
  refine hK _ _ hb3 ?_
  clear hK K
  have B3 := bel_step B2 hb3
  iterate 1 (refine wpSeq_take (o := ⟨_, _, _, _, _, _⟩) (v := ?_) rfl rfl ?_ ?_; rotate_left; (focus (intro W hW; go_simp; first | done | with_reducible rfl)); simp only [Act.put, List.setIfInBounds_toArray, List.set_cons_zero, List.set_cons_succ])
  refine wpSeq_nil ?_
  go_wp2_with fail
  go_ret
  exact RetRow.of rfl (own_mono ho3 B2.size) B3
theorem oneNext_any (v k a b n : Int) (s t : List UInt8) (w : World) (hs : s.length ≤ 10000) (ht : t.length ≤ 10000) : Calls Tryz.prog 142 #[.agg (OC v k a b n s t)] w (RetL w (oneO k a b n s t).length ((oneO k a b n s t).map lfO)) := by
  unfold oneO
  by_cases h1 : k = 1
  · rw [if_pos h1, h1]; exact oneNext_1 v a b n s t w hs ht
  · rw [if_neg h1]
    by_cases h2 : k = 2
    · rw [if_pos h2, h2]; exact oneNext_2 v a b n s t w hs ht
    · rw [if_neg h2]
      by_cases h3 : k = 3
      · rw [if_pos h3, h3]; exact oneNext_3 v a b n s t w hs ht
      · rw [if_neg h3]
        by_cases h4 : k = 4
        · rw [if_pos h4, h4]
          by_cases hn : n < 0 ∨ 3 < n
          · rw [if_pos hn]; exact oneNext_4_no v a b n s t w hs ht hn
          · rw [if_neg hn]
            rcases (by omega : n = 0 ∨ n = 1 ∨ n = 2 ∨ n = 3) with rfl | rfl | rfl | rfl
            · exact oneNext_4_0 v a b 0 s t w hs ht
            · exact oneNext_4_1 v a b 0 s t w hs ht
            · exact oneNext_4_2 v a b 0 s t w hs ht
            · exact oneNext_4_3 v a b 0 s t w hs ht
        · rw [if_neg h4]
          cases hw : wordsL s with
          | nil => exact oneNext_w_no v a b n s t w hs ht k h1 h2 h3 h4 hw
          | cons x xs => exact oneNext_w_yes v a b n s t w hs ht k h1 h2 h3 h4 x xs hw
end Go.Proofs.YtedliepfaibefaaGreatDoor
