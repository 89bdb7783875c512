/-
  Dates shown: Show (printed by gen_dtk.py).
-/
import Derived.Test.YtobidipkgaaecaaDoorDtJ
namespace Go.Proofs.YtobidipkgaaecaaDoor
open Go.RowKit Go.Nst
set_option maxRecDepth 100000
set_option linter.unusedVariables false
set_option linter.unusedSimpArgs false

theorem ba_app (a b : List UInt8) : (ByteArray.mk a.toArray) ++ (ByteArray.mk b.toArray) = ⟨(a ++ b).toArray⟩ := by
  apply ByteArray.ext
  simp [ByteArray.data_append]
theorem show_no (n : Int) (w : World) (h : mayM n = false) : Calls Tryd.prog 15 #[.int .i64 n] w fun e w' => e = .returned (.string ⟨#[]⟩) ∧ Below w.heap.size w w' := by
  have HO := Lib.hid (of_no n w h)
  clear h
  simp only [Dt.val, Dt.cells, Dt.zero] at HO
  go_enter Tryd.func15, Tryd.ntmps15
  go_wp2_with fail
  (with_reducible refine (HO.out).mono ?_)
  rintro e w1 ⟨rfl, hb1⟩
  have B1 := bel_alloc hb1 (.cells #[.int .i64 0, .int .i64 0, .int .i64 0, .int .i64 0, .int .i64 0, .int .i64 0] 23)
  go_wp2_with fail
  go_ret
  exact ⟨rfl, B1⟩
set_option maxHeartbeats 8000000 in
theorem show_yes (n : Int) (w : World) (h : mayM n = true) : Calls Tryd.prog 15 #[.int .i64 n] w fun e w' => e = .returned (.string ⟨(showT (ofD n)).toArray⟩) ∧ Below w.heap.size w w' := by
  have HO := Lib.hid (of_yes n w h)
  have hok := (ofD_ok h).1
  have h1 := ok_ym hok
  have h2 := (ok_iff _).1 hok
  have h3 := daysM_bd (ofD n).y (ofD n).m
  clear h hok
  generalize ofD n = x at *
  obtain ⟨y, m, d, h_, mi, s⟩ := x
  simp only at h1 h2 h3
  have hy : 0 ≤ y ∧ y ≤ 100000 := by omega
  have hm : 0 ≤ m ∧ m ≤ 100000 := by omega
  have hd : 0 ≤ d ∧ d ≤ 100000 := by omega
  have hh : 0 ≤ h_ ∧ h_ ≤ 100000 := by omega
  have hmi : 0 ≤ mi ∧ mi ≤ 100000 := by omega
  have hs : 0 ≤ s ∧ s ≤ 100000 := by omega
  clear h1 h2 h3
  have DY := Lib.hid (fun W => digits4_any y W hy.1 hy.2)
  have DM := Lib.hid (fun W => digits2_any m W hm.1 hm.2)
  have DD := Lib.hid (fun W => digits2_any d W hd.1 hd.2)
  have DH := Lib.hid (fun W => digits2_any h_ W hh.1 hh.2)
  have DI := Lib.hid (fun W => digits2_any mi W hmi.1 hmi.2)
  have DS := Lib.hid (fun W => digits2_any s W hs.1 hs.2)
  have HV : Hid (showT ⟨y, m, d, h_, mi, s⟩ = digL 4 y ++ 45 :: (digL 2 m ++ 45 :: (digL 2 d ++ 84 :: (digL 2 h_ ++ 58 :: (digL 2 mi ++ 58 :: (digL 2 s ++ [90])))))) := rfl
  have ly := digL_len 4 y
  have lm := digL_len 2 m
  have ld := digL_len 2 d
  have lh := digL_len 2 h_
  have li := digL_len 2 mi
  have ls := digL_len 2 s
  generalize digL 4 y = ty at *
  generalize digL 2 m = tm at *
  generalize digL 2 d = td at *
  generalize digL 2 h_ = th at *
  generalize digL 2 mi = ti at *
  generalize digL 2 s = ts at *
  simp only [Dt.val, Dt.cells] at HO
  generalize showT ⟨y, m, d, h_, mi, s⟩ = res at *
  clear hy hm hd hh hmi hs
  go_enter Tryd.func15, Tryd.ntmps15
  go_wp2_with fail
  (with_reducible refine (HO.out).mono ?_)
  rintro e w1 ⟨rfl, hb1⟩
  have B1 := bel_alloc hb1 (.cells #[.int .i64 y, .int .i64 m, .int .i64 d, .int .i64 h_, .int .i64 mi, .int .i64 s] 23)
  have hx := Blk.new w1 23 #[.int .i64 y, .int .i64 m, .int .i64 d, .int .i64 h_, .int .i64 mi, .int .i64 s]
  obtain ⟨gd, hgd⟩ : ∃ gd, gd = w1.heap.size := ⟨_, rfl⟩
  go_wp2_with fail
  rw [← hgd] at hx
  simp only [← hgd]
  generalize w1.alloc (.cells #[.int .i64 y, .int .i64 m, .int .i64 d, .int .i64 h_, .int .i64 mi, .int .i64 s] 23) = w2 at *
  clear hgd hb1
  refine wp_region_seq (by kernel_rfl) [(0, true), (1, true), (3, true), (4, true), (6, true), (7, true), (2, false), (5, false), (8, false), (9, false), (10, true)] (by kernel_rfl) rfl (by kernel_rfl) ?_
  intro w3a hb
  have hx_ := hx.below hb hx.lt
  have B_ := bel_step B1 hb
  have c0 := fun W (hW : Below w3a.heap.size w3a W) => (show W.cell? ⟨gd, 0, none⟩ = some (.int .i64 y) from ((hx_.below hW hx_.lt).cell 0).trans rfl)
  have c1 := fun W (hW : Below w3a.heap.size w3a W) => (show W.cell? ⟨gd, 1, none⟩ = some (.int .i64 m) from ((hx_.below hW hx_.lt).cell 1).trans rfl)
  have c2 := fun W (hW : Below w3a.heap.size w3a W) => (show W.cell? ⟨gd, 2, none⟩ = some (.int .i64 d) from ((hx_.below hW hx_.lt).cell 2).trans rfl)
  clear hb
  iterate 6 (refine wpSeq_take (o := ⟨_, _, _, _, _, _⟩) (v := ?_) rfl rfl ?_ ?_; rotate_left; (focus (intro W hW; go_simp; first | done | with_reducible rfl)); simp only [Act.put, List.setIfInBounds_toArray, List.set_cons_zero, List.set_cons_succ])
  clear c0 c1 c2
  refine wpSeq_exec (o := ⟨_, _, _, _, _, _⟩) rfl rfl (fun K hK => ?_)
  go_simp
  (with_reducible refine (DY.out w3a).mono ?_)
  rintro e w3b ⟨rfl, hb⟩
  go_wp2_with fail
  refine hK _ _ hb ?_
  clear hK K
  have hx_ := hx_.below hb hx_.lt
  have B_ := bel_step B_ hb
  clear hb
  refine wpSeq_exec (o := ⟨_, _, _, _, _, _⟩) rfl rfl (fun K hK => ?_)
  go_simp
  (with_reducible refine (DM.out w3b).mono ?_)
  rintro e w3c ⟨rfl, hb⟩
  go_wp2_with fail
  refine hK _ _ hb ?_
  clear hK K
  have hx_ := hx_.below hb hx_.lt
  have B_ := bel_step B_ hb
  clear hb
  refine wpSeq_exec (o := ⟨_, _, _, _, _, _⟩) rfl rfl (fun K hK => ?_)
  go_simp
  (with_reducible refine (DD.out w3c).mono ?_)
  rintro e w3d ⟨rfl, hb⟩
  go_wp2_with fail
  refine hK _ _ hb ?_
  clear hK K
  have hx_ := hx_.below hb hx_.lt
  have B_ := bel_step B_ hb
  clear hb
  refine wpSeq_exec (o := ⟨_, _, _, _, _, _⟩) rfl rfl (fun K hK => ?_)
  go_simp
  refine hK _ _ (bel_alloc (Below.refl w3d.heap.size w3d) (.cells #[.string ⟨ty.toArray⟩, .string ⟨tm.toArray⟩, .string ⟨td.toArray⟩] 9)) ?_
  clear hK K
  have q1_x := hx_.alloc (.cells #[.string ⟨ty.toArray⟩, .string ⟨tm.toArray⟩, .string ⟨td.toArray⟩] 9)
  have q1_B := bel_alloc B_ (.cells #[.string ⟨ty.toArray⟩, .string ⟨tm.toArray⟩, .string ⟨td.toArray⟩] 9)
  have q1_q := Blk.new w3d 9 #[.string ⟨ty.toArray⟩, .string ⟨tm.toArray⟩, .string ⟨td.toArray⟩]
  obtain ⟨q1_g, hg⟩ : ∃ g, g = w3d.heap.size := ⟨_, rfl⟩
  rw [← hg] at q1_q
  simp only [← hg]
  generalize w3d.alloc (.cells #[.string ⟨ty.toArray⟩, .string ⟨tm.toArray⟩, .string ⟨td.toArray⟩] 9) = w3 at *
  clear hg hx_ B_
  iterate 1 (refine wpSeq_take (o := ⟨_, _, _, _, _, _⟩) (v := ?_) rfl rfl ?_ ?_; rotate_left; (focus (intro W hW; go_simp; first | done | with_reducible rfl)); simp only [Act.put, List.setIfInBounds_toArray, List.set_cons_zero, List.set_cons_succ])
  refine wpSeq_nil ?_
  go_wp2_with fail
  refine wp_region_seq (by kernel_rfl) [(0, true), (1, true), (3, true), (4, true), (6, true), (7, true), (2, false), (5, false), (8, false), (9, false), (10, true)] (by kernel_rfl) rfl (by kernel_rfl) ?_
  intro w4a hb
  have hx_ := q1_x.below hb q1_x.lt
  have B_ := bel_step q1_B hb
  have q1_q := q1_q.below hb q1_q.lt
  have c0 := fun W (hW : Below w4a.heap.size w4a W) => (show W.cell? ⟨gd, 3, none⟩ = some (.int .i64 h_) from ((hx_.below hW hx_.lt).cell 3).trans rfl)
  have c1 := fun W (hW : Below w4a.heap.size w4a W) => (show W.cell? ⟨gd, 4, none⟩ = some (.int .i64 mi) from ((hx_.below hW hx_.lt).cell 4).trans rfl)
  have c2 := fun W (hW : Below w4a.heap.size w4a W) => (show W.cell? ⟨gd, 5, none⟩ = some (.int .i64 s) from ((hx_.below hW hx_.lt).cell 5).trans rfl)
  clear hb
  iterate 6 (refine wpSeq_take (o := ⟨_, _, _, _, _, _⟩) (v := ?_) rfl rfl ?_ ?_; rotate_left; (focus (intro W hW; go_simp; first | done | with_reducible rfl)); simp only [Act.put, List.setIfInBounds_toArray, List.set_cons_zero, List.set_cons_succ])
  clear c0 c1 c2
  refine wpSeq_exec (o := ⟨_, _, _, _, _, _⟩) rfl rfl (fun K hK => ?_)
  go_simp
  (with_reducible refine (DH.out w4a).mono ?_)
  rintro e w4b ⟨rfl, hb⟩
  go_wp2_with fail
  refine hK _ _ hb ?_
  clear hK K
  have hx_ := hx_.below hb hx_.lt
  have B_ := bel_step B_ hb
  have q1_q := q1_q.below hb q1_q.lt
  clear hb
  refine wpSeq_exec (o := ⟨_, _, _, _, _, _⟩) rfl rfl (fun K hK => ?_)
  go_simp
  (with_reducible refine (DI.out w4b).mono ?_)
  rintro e w4c ⟨rfl, hb⟩
  go_wp2_with fail
  refine hK _ _ hb ?_
  clear hK K
  have hx_ := hx_.below hb hx_.lt
  have B_ := bel_step B_ hb
  have q1_q := q1_q.below hb q1_q.lt
  clear hb
  refine wpSeq_exec (o := ⟨_, _, _, _, _, _⟩) rfl rfl (fun K hK => ?_)
  go_simp
  (with_reducible refine (DS.out w4c).mono ?_)
  rintro e w4d ⟨rfl, hb⟩
  go_wp2_with fail
  refine hK _ _ hb ?_
  clear hK K
  have hx_ := hx_.below hb hx_.lt
  have B_ := bel_step B_ hb
  have q1_q := q1_q.below hb q1_q.lt
  clear hb
  refine wpSeq_exec (o := ⟨_, _, _, _, _, _⟩) rfl rfl (fun K hK => ?_)
  go_simp
  refine hK _ _ (bel_alloc (Below.refl w4d.heap.size w4d) (.cells #[.string ⟨th.toArray⟩, .string ⟨ti.toArray⟩, .string ⟨ts.toArray⟩] 9)) ?_
  clear hK K
  have q1_q := q1_q.alloc (.cells #[.string ⟨th.toArray⟩, .string ⟨ti.toArray⟩, .string ⟨ts.toArray⟩] 9)
  have q2_x := hx_.alloc (.cells #[.string ⟨th.toArray⟩, .string ⟨ti.toArray⟩, .string ⟨ts.toArray⟩] 9)
  have q2_B := bel_alloc B_ (.cells #[.string ⟨th.toArray⟩, .string ⟨ti.toArray⟩, .string ⟨ts.toArray⟩] 9)
  have q2_q := Blk.new w4d 9 #[.string ⟨th.toArray⟩, .string ⟨ti.toArray⟩, .string ⟨ts.toArray⟩]
  obtain ⟨q2_g, hg⟩ : ∃ g, g = w4d.heap.size := ⟨_, rfl⟩
  rw [← hg] at q2_q
  simp only [← hg]
  generalize w4d.alloc (.cells #[.string ⟨th.toArray⟩, .string ⟨ti.toArray⟩, .string ⟨ts.toArray⟩] 9) = w4 at *
  clear hg hx_ B_
  iterate 1 (refine wpSeq_take (o := ⟨_, _, _, _, _, _⟩) (v := ?_) rfl rfl ?_ ?_; rotate_left; (focus (intro W hW; go_simp; first | done | with_reducible rfl)); simp only [Act.put, List.setIfInBounds_toArray, List.set_cons_zero, List.set_cons_succ])
  refine wpSeq_nil ?_
  go_wp2_with fail
  have HJ := Lib.hid (join3_any q1_g ty tm td 45 w4 q1_q (by omega) (by omega) (by omega))
  (with_reducible refine (HJ.out).mono ?_)
  rintro e w5 ⟨rfl, hb5⟩
  have q2_q := q2_q.below hb5 q2_q.lt
  have B5 := bel_step q2_B hb5
  have HJ2 := Lib.hid (join3_any q2_g th ti ts 58 w5 q2_q (by omega) (by omega) (by omega))
  go_wp2_with fail
  (with_reducible refine (HJ2.out).mono ?_)
  rintro e w6 ⟨rfl, hb6⟩
  go_wp2_with fail
  go_ret
  rw [HV.out]
  exact ⟨by rw [show (ByteArray.mk #[84]) = ⟨[84].toArray⟩ from rfl, show (ByteArray.mk #[90]) = ⟨[90].toArray⟩ from rfl, ba_app, ba_app, ba_app]; simp, bel_step B5 hb6⟩
end Go.Proofs.YtobidipkgaaecaaDoor
