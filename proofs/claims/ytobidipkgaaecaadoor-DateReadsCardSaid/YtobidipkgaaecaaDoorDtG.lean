/-
  The document's dates: Show, Web (printed by gen_dtg.py).
-/
import Derived.Test.YtobidipkgaaecaaDoorDtF
namespace Go.Proofs.YtobidipkgaaecaaDoor
open Go.RowKit Go.Nst
set_option maxRecDepth 100000
set_option linter.unusedVariables false
set_option linter.unusedSimpArgs false

set_option maxHeartbeats 8000000 in
theorem show4_any (n : Int) (w : World) (h : mayM n = true) : Calls Tryd.prog 20 #[.int .i64 n] w fun e w' => e = .returned (.string ⟨(showT (ofD n)).toArray⟩) ∧ Below w.heap.size w w' := by
  have HO := Lib.hid (of4_any n w h)
  have hok := (ofD_ok h).1
  have h1 := ok_ym hok
  have h2 := (ok_iff _).1 hok
  have h3 := daysM_bd (ofD n).y (ofD n).m
  clear h hok
  generalize ofD n = x at *
  obtain ⟨y, m, d, h_, mi, s⟩ := x
  simp only at h1 h2 h3
  have DY := Lib.hid (fun W => dig4_any 4 y W (by omega) (by omega) (by omega))
  have DM := Lib.hid (fun W => dig4_any 2 m W (by omega) (by omega) (by omega))
  have DD := Lib.hid (fun W => dig4_any 2 d W (by omega) (by omega) (by omega))
  have DH := Lib.hid (fun W => dig4_any 2 h_ W (by omega) (by omega) (by omega))
  have DI := Lib.hid (fun W => dig4_any 2 mi W (by omega) (by omega) (by omega))
  have DS := Lib.hid (fun W => dig4_any 2 s W (by omega) (by omega) (by omega))
  have HV : Hid (showT ⟨y, m, d, h_, mi, s⟩ = digL 4 y ++ 45 :: (digL 2 m ++ 45 :: (digL 2 d ++ 84 :: (digL 2 h_ ++ 58 :: (digL 2 mi ++ 58 :: (digL 2 s ++ [90])))))) := rfl
  have ly := digL_len 4 y
  have lm := digL_len 2 m
  have ld := digL_len 2 d
  have lh := digL_len 2 h_
  have li := digL_len 2 mi
  have ls := digL_len 2 s
  generalize digL 4 y = ty at *
  generalize digL 2 m = tm at *
  generalize digL 2 d = td at *
  generalize digL 2 h_ = th at *
  generalize digL 2 mi = ti at *
  generalize digL 2 s = ts at *
  simp only [Dt.val, Dt.cells] at HO
  generalize showT ⟨y, m, d, h_, mi, s⟩ = res at *
  clear h1 h2 h3
  go_enter Tryd.func20, Tryd.ntmps20
  go_wp2_with fail
  (with_reducible refine (HO.out).mono ?_)
  rintro e w1 ⟨rfl, hb1⟩
  have B1 := bel_alloc hb1 (.cells #[.int .i64 y, .int .i64 m, .int .i64 d, .int .i64 h_, .int .i64 mi, .int .i64 s] 23)
  have hx := Blk.new w1 23 #[.int .i64 y, .int .i64 m, .int .i64 d, .int .i64 h_, .int .i64 mi, .int .i64 s]
  obtain ⟨gd, hgd⟩ : ∃ gd, gd = w1.heap.size := ⟨_, rfl⟩
  go_wp2_with fail
  rw [← hgd] at hx
  simp only [← hgd]
  generalize w1.alloc (.cells #[.int .i64 y, .int .i64 m, .int .i64 d, .int .i64 h_, .int .i64 mi, .int .i64 s] 23) = w2 at *
  clear hgd hb1
  refine wp_region_seqT (by kernel_rfl) [(0, true), (1, true), (4, true), (5, true), (9, true), (10, true), (14, true), (15, true), (19, true), (20, true), (24, true), (25, true), (2, true), (3, true), (6, true), (7, true), (8, true), (11, true), (12, true), (13, true), (16, true), (17, true), (18, true), (21, true), (22, true), (23, true), (26, true), (27, true), (28, true), (29, true)] (by kernel_rfl) rfl (by kernel_rfl) ?_
  intro w3 hb
  have hx := hx.below hb hx.lt
  have B1 := bel_step B1 hb
  have c0 := fun W (hW : Below w3.heap.size w3 W) => (show W.cell? ⟨gd, 0, none⟩ = some (.int .i64 y) from ((hx.below hW hx.lt).cell 0).trans rfl)
  have c1 := fun W (hW : Below w3.heap.size w3 W) => (show W.cell? ⟨gd, 1, none⟩ = some (.int .i64 m) from ((hx.below hW hx.lt).cell 1).trans rfl)
  have c2 := fun W (hW : Below w3.heap.size w3 W) => (show W.cell? ⟨gd, 2, none⟩ = some (.int .i64 d) from ((hx.below hW hx.lt).cell 2).trans rfl)
  have c3 := fun W (hW : Below w3.heap.size w3 W) => (show W.cell? ⟨gd, 3, none⟩ = some (.int .i64 h_) from ((hx.below hW hx.lt).cell 3).trans rfl)
  have c4 := fun W (hW : Below w3.heap.size w3 W) => (show W.cell? ⟨gd, 4, none⟩ = some (.int .i64 mi) from ((hx.below hW hx.lt).cell 4).trans rfl)
  have c5 := fun W (hW : Below w3.heap.size w3 W) => (show W.cell? ⟨gd, 5, none⟩ = some (.int .i64 s) from ((hx.below hW hx.lt).cell 5).trans rfl)
  clear hb
  iterate 12 (refine wpSeqT_take (o := ⟨_, _, _, _, _, _⟩) (v := ?_) rfl rfl ?_ ?_; rotate_left; (focus (intro W hW; go_simp; first | done | with_reducible rfl)); simp only [Act.put, List.setIfInBounds_toArray, List.set_cons_zero, List.set_cons_succ])
  clear c0 c1 c2 c3 c4 c5
  (refine wpSeqT_call (o := ⟨_, _, _, _, _, _⟩) rfl rfl (fun W hW => DY.out W) ?_ ?_; (focus (intro W hW; go_simp; first | done | with_reducible rfl)); simp only [Act.put, List.setIfInBounds_toArray, List.set_cons_zero, List.set_cons_succ])
  iterate 1 (refine wpSeqT_take (o := ⟨_, _, _, _, _, _⟩) (v := ?_) rfl rfl ?_ ?_; rotate_left; (focus (intro W hW; go_simp; first | done | with_reducible rfl)); simp only [Act.put, List.setIfInBounds_toArray, List.set_cons_zero, List.set_cons_succ])
  (refine wpSeqT_call (o := ⟨_, _, _, _, _, _⟩) rfl rfl (fun W hW => DM.out W) ?_ ?_; (focus (intro W hW; go_simp; first | done | with_reducible rfl)); simp only [Act.put, List.setIfInBounds_toArray, List.set_cons_zero, List.set_cons_succ])
  iterate 2 (refine wpSeqT_take (o := ⟨_, _, _, _, _, _⟩) (v := ?_) rfl rfl ?_ ?_; rotate_left; (focus (intro W hW; go_simp; first | done | with_reducible rfl)); simp only [Act.put, List.setIfInBounds_toArray, List.set_cons_zero, List.set_cons_succ])
  (refine wpSeqT_call (o := ⟨_, _, _, _, _, _⟩) rfl rfl (fun W hW => DD.out W) ?_ ?_; (focus (intro W hW; go_simp; first | done | with_reducible rfl)); simp only [Act.put, List.setIfInBounds_toArray, List.set_cons_zero, List.set_cons_succ])
  iterate 2 (refine wpSeqT_take (o := ⟨_, _, _, _, _, _⟩) (v := ?_) rfl rfl ?_ ?_; rotate_left; (focus (intro W hW; go_simp; first | done | with_reducible rfl)); simp only [Act.put, List.setIfInBounds_toArray, List.set_cons_zero, List.set_cons_succ])
  (refine wpSeqT_call (o := ⟨_, _, _, _, _, _⟩) rfl rfl (fun W hW => DH.out W) ?_ ?_; (focus (intro W hW; go_simp; first | done | with_reducible rfl)); simp only [Act.put, List.setIfInBounds_toArray, List.set_cons_zero, List.set_cons_succ])
  iterate 2 (refine wpSeqT_take (o := ⟨_, _, _, _, _, _⟩) (v := ?_) rfl rfl ?_ ?_; rotate_left; (focus (intro W hW; go_simp; first | done | with_reducible rfl)); simp only [Act.put, List.setIfInBounds_toArray, List.set_cons_zero, List.set_cons_succ])
  (refine wpSeqT_call (o := ⟨_, _, _, _, _, _⟩) rfl rfl (fun W hW => DI.out W) ?_ ?_; (focus (intro W hW; go_simp; first | done | with_reducible rfl)); simp only [Act.put, List.setIfInBounds_toArray, List.set_cons_zero, List.set_cons_succ])
  iterate 2 (refine wpSeqT_take (o := ⟨_, _, _, _, _, _⟩) (v := ?_) rfl rfl ?_ ?_; rotate_left; (focus (intro W hW; go_simp; first | done | with_reducible rfl)); simp only [Act.put, List.setIfInBounds_toArray, List.set_cons_zero, List.set_cons_succ])
  (refine wpSeqT_call (o := ⟨_, _, _, _, _, _⟩) rfl rfl (fun W hW => DS.out W) ?_ ?_; (focus (intro W hW; go_simp; first | done | with_reducible rfl)); simp only [Act.put, List.setIfInBounds_toArray, List.set_cons_zero, List.set_cons_succ])
  iterate 3 (refine wpSeqT_take (o := ⟨_, _, _, _, _, _⟩) (v := ?_) rfl rfl ?_ ?_; rotate_left; (focus (intro W hW; go_simp; first | done | with_reducible rfl)); simp only [Act.put, List.setIfInBounds_toArray, List.set_cons_zero, List.set_cons_succ])
  refine wpSeqT_nil ?_
  go_wp2_with fail
  go_ret
  rw [HV.out]
  exact ⟨by rw [show (ByteArray.mk #[45]) = ⟨[45].toArray⟩ from rfl, show (ByteArray.mk #[84]) = ⟨[84].toArray⟩ from rfl, show (ByteArray.mk #[58]) = ⟨[58].toArray⟩ from rfl, show (ByteArray.mk #[90]) = ⟨[90].toArray⟩ from rfl]; simp only [ba_app2]; simp, B1⟩

end Go.Proofs.YtobidipkgaaecaaDoor
