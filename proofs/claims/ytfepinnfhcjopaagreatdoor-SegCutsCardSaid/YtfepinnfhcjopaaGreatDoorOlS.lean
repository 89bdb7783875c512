/-
  The reference's Second (printed by gen_olds.py).
-/
import Derived.Test.YtfepinnfhcjopaaGreatDoorOlT
import Derived.Test.YtfepinnfhcjopaaGreatDoorOlB3
namespace Go.Proofs.YtfepinnfhcjopaaGreatDoor
open Go.RowKit Go.Nst
set_option maxRecDepth 100000
set_option linter.unusedVariables false
set_option linter.unusedSimpArgs false

theorem refClean_l (l : List UInt8) (w : World) (hl : l.length ≤ 100000) : Calls Tryz.prog 110 #[.string ⟨l.toArray⟩] w (RetS w (cleanT l)) := by
  have := refClean_any ⟨l.toArray⟩ w (by rw [size_of]; exact hl)
  rwa [bl_of] at this
theorem refCut_l (l : List UInt8) (n : Int) (w : World) (hl : l.length ≤ 1000000) (h0 : -9223372036854775808 ≤ n) (h1 : n ≤ 9223372036854775807) : Calls Tryz.prog 111 #[.string ⟨l.toArray⟩, .int .i64 n] w fun e w' => e = .returned (.string ⟨(cutT l n).toArray⟩) ∧ w = w' := by
  have := refCut_any ⟨l.toArray⟩ n w (by rw [size_of]; exact hl) h0 h1
  rwa [bl_of] at this
theorem refShort10_any (l : List UInt8) (n : Int) (w : World) (hl : l.length ≤ 10000) (h0 : -9223372036854775808 ≤ n) (h1 : n ≤ 9223372036854775807) : Calls Tryz.prog 99 #[.string ⟨l.toArray⟩, .int .i64 n] w (RetS w (shortT l n)) := by
  have H1 := Lib.hid (fun W => refClean_l l W (by omega))
  have hc1 := cleanT_len l
  have H2 := Lib.hid (fun W => refCut_l (cleanT l) n W (by omega) h0 h1)
  have hc2 := cutT_len (cleanT l) n
  have H3 := Lib.hid (fun W => refClean_l (cutT (cleanT l) n) W (by omega))
  unfold shortT
  generalize cleanT l = l1 at *
  generalize cutT l1 n = l2 at *
  generalize cleanT l2 = l3 at *
  go_enter Tryz.func99, Tryz.ntmps99
  go_wp2_with fail
  (with_reducible refine (H1.out _).mono ?_)
  rintro e w1 ⟨rfl, hb1⟩
  go_wp2_with fail
  (with_reducible refine (H2.out _).mono ?_)
  rintro e w2 ⟨rfl, rfl⟩
  go_wp2_with fail
  (with_reducible refine (H3.out _).mono ?_)
  rintro e w3 ⟨rfl, hb3⟩
  go_wp2_with fail
  go_ret
  exact ⟨rfl, bel_step hb1 hb3⟩

set_option maxHeartbeats 4000000 in
theorem refSecond_no (v k a b n : Int) (s t : List UInt8) (w : World) (hs : s.length ≤ 10000) (ht : t.length ≤ 10000) (hok : Ol.ok ⟨v, k, a, b, n, s, t⟩ = false) : Calls Tryz.prog 81 #[.agg (OC v k a b n s t)] w (RetOl w 0 []) := by
  have hv0 := Blk.new w 90 (OC v k a b n s t)
  have B0 := bel_alloc (Below.refl w.heap.size w) (.cells (OC v k a b n s t) 90)
  have HC := Lib.hid (fun W => refCheck16_any v k a b n s t W (by omega) (by omega))
  rw [hok] at HC
  clear hok
  simp only [OC] at *
  go_enter Tryz.func81, Tryz.ntmps81
  go_wp2_with fail
  (with_reducible refine (HC.out _).mono ?_)
  rintro e w1 ⟨rfl, hb1⟩
  have B1 := bel_step B0 hb1
  go_wp2_with fail
  go_ret
  exact RetRow.nil rfl B1
set_option maxHeartbeats 4000000 in
theorem refSecond_two (k a b n : Int) (s t : List UInt8) (w : World) (hs : s.length ≤ 10000) (ht : t.length ≤ 10000) (hok : Ol.ok ⟨2, k, a, b, n, s, t⟩ = true) : Calls Tryz.prog 81 #[.agg (OC 2 k a b n s t)] w (RetOl w 1 (olsC [⟨2, k, a, b, n, s, t⟩])) := by
  have hv0 := Blk.new w 90 (OC 2 k a b n s t)
  have B0 := bel_alloc (Below.refl w.heap.size w) (.cells (OC 2 k a b n s t) 90)
  have HC := Lib.hid (fun W => refCheck16_any 2 k a b n s t W (by omega) (by omega))
  rw [hok] at HC
  clear hok
  simp only [OC] at *
  go_enter Tryz.func81, Tryz.ntmps81
  go_wp2_with fail
  (with_reducible refine (HC.out _).mono ?_)
  rintro e w1 ⟨rfl, hb1⟩
  have B1 := bel_step B0 hb1
  have hv1 := hv0.below hb1 hv0.lt
  have y0 := hv1.cell 0
  have y1 := hv1.cell 1
  have y2 := hv1.cell 2
  have y3 := hv1.cell 3
  have y4 := hv1.cell 4
  have y5 := hv1.cell 5
  have y6 := hv1.cell 6
  try simp only [OC] at y0 y1 y2 y3 y4 y5 y6
  simp at y0 y1 y2 y3 y4 y5 y6
  have hs1 := B1.size
  clear hb1 B0
  clear hv0 hv1
  go_wp2_with fail
  go_ret
  exact RetRow.lit rfl (by first | rfl | simp [olsC, olC]) rfl rfl (by omega) B1
set_option maxHeartbeats 4000000 in
theorem refSecond_k1 (a b n : Int) (s t : List UInt8) (w : World) (hs : s.length ≤ 10000) (ht : t.length ≤ 10000) (hok : Ol.ok ⟨1, 1, a, b, n, s, t⟩ = true) : Calls Tryz.prog 81 #[.agg (OC 1 1 a b n s t)] w (RetOl w 1 (olsC [⟨2, 3, a, 0, 0, shortT s 512, []⟩])) := by
  have hv0 := Blk.new w 90 (OC 1 1 a b n s t)
  have B0 := bel_alloc (Below.refl w.heap.size w) (.cells (OC 1 1 a b n s t) 90)
  have HC := Lib.hid (fun W => refCheck16_any 1 1 a b n s t W (by omega) (by omega))
  have HS := Lib.hid (fun W => refShort10_any s 512 W (by omega) (by omega) (by omega))
  generalize shortT s 512 = s1 at *
  rw [hok] at HC
  clear hok
  simp only [OC] at *
  go_enter Tryz.func81, Tryz.ntmps81
  go_wp2_with fail
  (with_reducible refine (HC.out _).mono ?_)
  rintro e w1 ⟨rfl, hb1⟩
  have B1 := bel_step B0 hb1
  have hv1 := hv0.below hb1 hv0.lt
  have y0 := hv1.cell 0
  have y1 := hv1.cell 1
  have y2 := hv1.cell 2
  have y3 := hv1.cell 3
  have y4 := hv1.cell 4
  have y5 := hv1.cell 5
  have y6 := hv1.cell 6
  try simp only [OC] at y0 y1 y2 y3 y4 y5 y6
  simp at y0 y1 y2 y3 y4 y5 y6
  have hs1 := B1.size
  clear hb1 B0
  have hx1 := Blk.new w1 90 #[.int .i64 2, .int .i64 0, .int .i64 a, .int .i64 0, .int .i64 0, .string ⟨#[]⟩, .string ⟨#[]⟩]
  have BX := bel_alloc B1 (.cells #[.int .i64 2, .int .i64 0, .int .i64 a, .int .i64 0, .int .i64 0, .string ⟨#[]⟩, .string ⟨#[]⟩] 90)
  have hvx := hv1.alloc (.cells #[.int .i64 2, .int .i64 0, .int .i64 a, .int .i64 0, .int .i64 0, .string ⟨#[]⟩, .string ⟨#[]⟩] 90)
  have z0 := hvx.cell 0
  have z1 := hvx.cell 1
  have z2 := hvx.cell 2
  have z3 := hvx.cell 3
  have z4 := hvx.cell 4
  have z5 := hvx.cell 5
  have z6 := hvx.cell 6
  try simp only [OC] at z0 z1 z2 z3 z4 z5 z6
  simp at z0 z1 z2 z3 z4 z5 z6
  clear hv0 hv1
  go_wp2_with fail
  (with_reducible refine (HS.out _).mono ?_)
  rintro e w2 ⟨rfl, hb2⟩
  have hx2 := hx1.below hb2 hx1.lt
  have B2 := bel_step BX hb2
  have q0 := hx2.cell 0
  have q1 := hx2.cell 1
  have q2 := hx2.cell 2
  have q3 := hx2.cell 3
  have q4 := hx2.cell 4
  have q5 := hx2.cell 5
  have q6 := hx2.cell 6
  have hfz := hx2.frozen
  simp at q0 q1 q2 q3 q4 q5 q6
  have HX2 := Lib.hid hx2
  clear hx2 hx1 hb2
  go_wp2_with fail
  go_ret
  exact RetRow.lit rfl (by first | rfl | simp [olsC, olC]) (by simp [olsC, olC]) rfl (by omega) ((B2.setCell (by simp; omega) _).setCell (by simp; omega) _)
set_option maxHeartbeats 4000000 in
theorem refSecond_k2 (a b n : Int) (s t : List UInt8) (w : World) (hs : s.length ≤ 10000) (ht : t.length ≤ 10000) (hok : Ol.ok ⟨1, 2, a, b, n, s, t⟩ = true) : Calls Tryz.prog 81 #[.agg (OC 1 2 a b n s t)] w (RetOl w 1 (olsC [⟨2, 4, a, 0, 0, [], []⟩])) := by
  have hv0 := Blk.new w 90 (OC 1 2 a b n s t)
  have B0 := bel_alloc (Below.refl w.heap.size w) (.cells (OC 1 2 a b n s t) 90)
  have HC := Lib.hid (fun W => refCheck16_any 1 2 a b n s t W (by omega) (by omega))
  rw [hok] at HC
  clear hok
  simp only [OC] at *
  go_enter Tryz.func81, Tryz.ntmps81
  go_wp2_with fail
  (with_reducible refine (HC.out _).mono ?_)
  rintro e w1 ⟨rfl, hb1⟩
  have B1 := bel_step B0 hb1
  have hv1 := hv0.below hb1 hv0.lt
  have y0 := hv1.cell 0
  have y1 := hv1.cell 1
  have y2 := hv1.cell 2
  have y3 := hv1.cell 3
  have y4 := hv1.cell 4
  have y5 := hv1.cell 5
  have y6 := hv1.cell 6
  try simp only [OC] at y0 y1 y2 y3 y4 y5 y6
  simp at y0 y1 y2 y3 y4 y5 y6
  have hs1 := B1.size
  clear hb1 B0
  have hx1 := Blk.new w1 90 #[.int .i64 2, .int .i64 0, .int .i64 a, .int .i64 0, .int .i64 0, .string ⟨#[]⟩, .string ⟨#[]⟩]
  have BX := bel_alloc B1 (.cells #[.int .i64 2, .int .i64 0, .int .i64 a, .int .i64 0, .int .i64 0, .string ⟨#[]⟩, .string ⟨#[]⟩] 90)
  have hvx := hv1.alloc (.cells #[.int .i64 2, .int .i64 0, .int .i64 a, .int .i64 0, .int .i64 0, .string ⟨#[]⟩, .string ⟨#[]⟩] 90)
  have z0 := hvx.cell 0
  have z1 := hvx.cell 1
  have z2 := hvx.cell 2
  have z3 := hvx.cell 3
  have z4 := hvx.cell 4
  have z5 := hvx.cell 5
  have z6 := hvx.cell 6
  try simp only [OC] at z0 z1 z2 z3 z4 z5 z6
  simp at z0 z1 z2 z3 z4 z5 z6
  have q0 := hx1.cell 0
  have q1 := hx1.cell 1
  have q2 := hx1.cell 2
  have q3 := hx1.cell 3
  have q4 := hx1.cell 4
  have q5 := hx1.cell 5
  have q6 := hx1.cell 6
  have hfz := hx1.frozen
  simp at q0 q1 q2 q3 q4 q5 q6
  clear hv0 hv1 hx1 hvx
  go_wp2_with fail
  go_ret
  exact RetRow.lit rfl (by first | rfl | simp [olsC, olC]) (by simp [olsC, olC]) rfl (by omega) (bel_alloc B1 _)
set_option maxHeartbeats 4000000 in
theorem refSecond_k3 (a b n : Int) (s t : List UInt8) (w : World) (hs : s.length ≤ 10000) (ht : t.length ≤ 10000) (hok : Ol.ok ⟨1, 3, a, b, n, s, t⟩ = true) : Calls Tryz.prog 81 #[.agg (OC 1 3 a b n s t)] w (RetOl w 1 (olsC [⟨2, 7, a, b, 0, shortT s 512, shortT t 256⟩])) := by
  have hv0 := Blk.new w 90 (OC 1 3 a b n s t)
  have B0 := bel_alloc (Below.refl w.heap.size w) (.cells (OC 1 3 a b n s t) 90)
  have HC := Lib.hid (fun W => refCheck16_any 1 3 a b n s t W (by omega) (by omega))
  have HS := Lib.hid (fun W => refShort10_any s 512 W (by omega) (by omega) (by omega))
  have HT := Lib.hid (fun W => refShort10_any t 256 W (by omega) (by omega) (by omega))
  generalize shortT s 512 = s1 at *
  generalize shortT t 256 = t1 at *
  rw [hok] at HC
  clear hok
  simp only [OC] at *
  go_enter Tryz.func81, Tryz.ntmps81
  go_wp2_with fail
  (with_reducible refine (HC.out _).mono ?_)
  rintro e w1 ⟨rfl, hb1⟩
  have B1 := bel_step B0 hb1
  have hv1 := hv0.below hb1 hv0.lt
  have y0 := hv1.cell 0
  have y1 := hv1.cell 1
  have y2 := hv1.cell 2
  have y3 := hv1.cell 3
  have y4 := hv1.cell 4
  have y5 := hv1.cell 5
  have y6 := hv1.cell 6
  try simp only [OC] at y0 y1 y2 y3 y4 y5 y6
  simp at y0 y1 y2 y3 y4 y5 y6
  have hs1 := B1.size
  clear hb1 B0
  have hx1 := Blk.new w1 90 #[.int .i64 2, .int .i64 0, .int .i64 a, .int .i64 0, .int .i64 0, .string ⟨#[]⟩, .string ⟨#[]⟩]
  have BX := bel_alloc B1 (.cells #[.int .i64 2, .int .i64 0, .int .i64 a, .int .i64 0, .int .i64 0, .string ⟨#[]⟩, .string ⟨#[]⟩] 90)
  have hvx := hv1.alloc (.cells #[.int .i64 2, .int .i64 0, .int .i64 a, .int .i64 0, .int .i64 0, .string ⟨#[]⟩, .string ⟨#[]⟩] 90)
  have z0 := hvx.cell 0
  have z1 := hvx.cell 1
  have z2 := hvx.cell 2
  have z3 := hvx.cell 3
  have z4 := hvx.cell 4
  have z5 := hvx.cell 5
  have z6 := hvx.cell 6
  try simp only [OC] at z0 z1 z2 z3 z4 z5 z6
  simp at z0 z1 z2 z3 z4 z5 z6
  have hvl := hv1.lt
  clear hv0 hv1 hs1
  go_wp2_with fail
  obtain ⟨gx, hgx⟩ : ∃ gx, gx = w1.heap.size := ⟨_, rfl⟩
  obtain ⟨gv, hgv⟩ : ∃ gv, gv = w.heap.size := ⟨_, rfl⟩
  rw [← hgx] at hx1 hvl
  rw [← hgv] at hvl hvx
  have hs1 : w.heap.size ≤ gx := by omega
  have hxl := hx1.lt
  have hne : some gv ≠ some gx := by simp; omega
  simp only [← hgx, ← hgv]
  generalize hwx : w1.alloc (.cells #[.int .i64 2, .int .i64 0, .int .i64 a, .int .i64 0, .int .i64 0, .string ⟨#[]⟩, .string ⟨#[]⟩] 90) = wx at *
  have hsx : w.heap.size ≤ wx.heap.size := BX.size
  clear hwx hgv hgx z0 z1 z2 z3 z4 z5 z6 y0 y1 y2 y3 y4 y5 y6
  refine wp_region_seqD (Onl gx) (Onl.refl gx) Onl.trans (by kernel_rfl) [(0, true), (1, true), (2, true), (3, true), (5, true), (6, true), (8, true), (4, false), (7, false), (9, false), (10, true), (11, false), (12, true), (13, false), (14, true), (15, false)] (by kernel_rfl) rfl (by kernel_rfl) ?_
  have hx7 := hx1.drew
  have hv7 := hvx.drew
  have B7 : Below w.heap.size w wx.drew := BX.drew
  generalize wx.drew = w7 at *
  have c0 : ∀ W, Onl gx w7 W → W.cell? ⟨gv, 0, none⟩ = some (.int .i64 1) := fun W hW => by have := (hv7.grown hW hne).cell 0; simpa using this
  have c1 : ∀ W, Onl gx w7 W → W.cell? ⟨gv, 1, none⟩ = some (.int .i64 3) := fun W hW => by have := (hv7.grown hW hne).cell 1; simpa using this
  have c2 : ∀ W, Onl gx w7 W → W.cell? ⟨gv, 2, none⟩ = some (.int .i64 a) := fun W hW => by have := (hv7.grown hW hne).cell 2; simpa using this
  have c3 : ∀ W, Onl gx w7 W → W.cell? ⟨gv, 3, none⟩ = some (.int .i64 b) := fun W hW => by have := (hv7.grown hW hne).cell 3; simpa using this
  have c4 : ∀ W, Onl gx w7 W → W.cell? ⟨gv, 4, none⟩ = some (.int .i64 n) := fun W hW => by have := (hv7.grown hW hne).cell 4; simpa using this
  have c5 : ∀ W, Onl gx w7 W → W.cell? ⟨gv, 5, none⟩ = some (.string ⟨s.toArray⟩) := fun W hW => by have := (hv7.grown hW hne).cell 5; simpa using this
  have c6 : ∀ W, Onl gx w7 W → W.cell? ⟨gv, 6, none⟩ = some (.string ⟨t.toArray⟩) := fun W hW => by have := (hv7.grown hW hne).cell 6; simpa using this
  clear hv7 hvx hne hx1 BX
  iterate 7 (refine wpSeqR_take (o := ⟨_, _, _, _, _, _⟩) (v := ?_) rfl rfl ?_ ?_; rotate_left; (focus (intro W hW; go_simp; first | done | with_reducible rfl)); simp only [Act.put, List.setIfInBounds_toArray, List.set_cons_zero, List.set_cons_succ])
  refine wpSeqR_exec (o := ⟨_, _, _, _, _, _⟩) rfl rfl (fun K hK => ?_)
  go_simp
  (with_reducible refine (HS.out _).mono ?_)
  rintro e w8 ⟨rfl, hb8⟩
  go_wp2_with fail
  refine hK _ _ (only_of_below hb8 _) ?_
  clear hK K
  have hx8 := hx7.below hb8 hx7.lt
  have B8 := bel_step B7 hb8
  refine wpSeqR_exec (o := ⟨_, _, _, _, _, _⟩) rfl rfl (fun K hK => ?_)
  go_simp
  (with_reducible refine (HT.out _).mono ?_)
  rintro e w9 ⟨rfl, hb9⟩
  go_wp2_with fail
  refine hK _ _ (only_of_below hb9 _) ?_
  clear hK K
  have hx9 := hx8.below hb9 hx8.lt
  have B9 := bel_step B8 hb9
  clear hx7 hx8 B7 B8 hb8 hb9 c0 c1 c2 c3 c4 c5 c6
  have q0 := hx9.cell 0
  have q1 := hx9.cell 1
  have q2 := hx9.cell 2
  have q3 := hx9.cell 3
  have q4 := hx9.cell 4
  have q5 := hx9.cell 5
  have q6 := hx9.cell 6
  have hfz := hx9.frozen
  simp at q0 q1 q2 q3 q4 q5 q6
  refine wpSeqR_exec (o := ⟨_, _, _, _, _, _⟩) rfl rfl (fun K hK => ?_)
  go_simp
  refine hK _ _ (only_setCell (World.grownBy.refl _ _) (.inl rfl) _) ?_
  clear hK K
  iterate 1 (refine wpSeqR_take (o := ⟨_, _, _, _, _, _⟩) (v := ?_) rfl rfl ?_ ?_; rotate_left; (focus (intro W hW; go_simp; first | done | with_reducible rfl)); simp only [Act.put, List.setIfInBounds_toArray, List.set_cons_zero, List.set_cons_succ])
  refine wpSeqR_exec (o := ⟨_, _, _, _, _, _⟩) rfl rfl (fun K hK => ?_)
  go_simp
  refine hK _ _ (only_setCell (World.grownBy.refl _ _) (.inl rfl) _) ?_
  clear hK K
  iterate 1 (refine wpSeqR_take (o := ⟨_, _, _, _, _, _⟩) (v := ?_) rfl rfl ?_ ?_; rotate_left; (focus (intro W hW; go_simp; first | done | with_reducible rfl)); simp only [Act.put, List.setIfInBounds_toArray, List.set_cons_zero, List.set_cons_succ])
  refine wpSeqR_exec (o := ⟨_, _, _, _, _, _⟩) rfl rfl (fun K hK => ?_)
  go_simp
  refine hK _ _ (only_setCell (World.grownBy.refl _ _) (.inl rfl) _) ?_
  clear hK K
  iterate 1 (refine wpSeqR_take (o := ⟨_, _, _, _, _, _⟩) (v := ?_) rfl rfl ?_ ?_; rotate_left; (focus (intro W hW; go_simp; first | done | with_reducible rfl)); simp only [Act.put, List.setIfInBounds_toArray, List.set_cons_zero, List.set_cons_succ])
  refine wpSeqR_exec (o := ⟨_, _, _, _, _, _⟩) rfl rfl (fun K hK => ?_)
  go_simp
  refine hK _ _ (only_setCell (World.grownBy.refl _ _) (.inl rfl) _) ?_
  clear hK K
  refine wpSeqR_nil ?_
  go_wp2_with fail
  go_ret
  exact RetRow.lit rfl (by first | rfl | simp [olsC, olC]) (by simp [olsC, olC]) rfl (by omega) ((((B9.setCell (by simp; omega) _).setCell (by simp; omega) _).setCell (by simp; omega) _).setCell (by simp; omega) _)
set_option maxHeartbeats 4000000 in
theorem refSecond_k4_no (a b n : Int) (s t : List UInt8) (w : World) (hs : s.length ≤ 10000) (ht : t.length ≤ 10000) (hok : Ol.ok ⟨1, 4, a, b, n, s, t⟩ = true) (hn : n < 0 ∨ 3 < n) : Calls Tryz.prog 81 #[.agg (OC 1 4 a b n s t)] w (RetOl w 0 []) := by
  have hv0 := Blk.new w 90 (OC 1 4 a b n s t)
  have B0 := bel_alloc (Below.refl w.heap.size w) (.cells (OC 1 4 a b n s t) 90)
  have HC := Lib.hid (fun W => refCheck16_any 1 4 a b n s t W (by omega) (by omega))
  rw [hok] at HC
  clear hok
  simp only [OC] at *
  go_enter Tryz.func81, Tryz.ntmps81
  go_wp2_with fail
  (with_reducible refine (HC.out _).mono ?_)
  rintro e w1 ⟨rfl, hb1⟩
  have B1 := bel_step B0 hb1
  have hv1 := hv0.below hb1 hv0.lt
  have y0 := hv1.cell 0
  have y1 := hv1.cell 1
  have y2 := hv1.cell 2
  have y3 := hv1.cell 3
  have y4 := hv1.cell 4
  have y5 := hv1.cell 5
  have y6 := hv1.cell 6
  try simp only [OC] at y0 y1 y2 y3 y4 y5 y6
  simp at y0 y1 y2 y3 y4 y5 y6
  have hs1 := B1.size
  clear hb1 B0
  have hx1 := Blk.new w1 90 #[.int .i64 2, .int .i64 0, .int .i64 a, .int .i64 0, .int .i64 0, .string ⟨#[]⟩, .string ⟨#[]⟩]
  have BX := bel_alloc B1 (.cells #[.int .i64 2, .int .i64 0, .int .i64 a, .int .i64 0, .int .i64 0, .string ⟨#[]⟩, .string ⟨#[]⟩] 90)
  have hvx := hv1.alloc (.cells #[.int .i64 2, .int .i64 0, .int .i64 a, .int .i64 0, .int .i64 0, .string ⟨#[]⟩, .string ⟨#[]⟩] 90)
  have z0 := hvx.cell 0
  have z1 := hvx.cell 1
  have z2 := hvx.cell 2
  have z3 := hvx.cell 3
  have z4 := hvx.cell 4
  have z5 := hvx.cell 5
  have z6 := hvx.cell 6
  try simp only [OC] at z0 z1 z2 z3 z4 z5 z6
  simp at z0 z1 z2 z3 z4 z5 z6
  clear hv0 hv1 hx1 hvx
  by_cases h0 : n < 0
  · have d1 : decide (n < 0) = true := by simpa using h0
    clear hn h0
    go_wp2_with fail
    go_ret
    exact RetRow.nil rfl BX
  · have d1 : decide (n < 0) = false := by simpa using h0
    have d2 : decide (3 < n) = true := by simp; omega
    clear hn h0
    go_wp2_with fail
    go_ret
    exact RetRow.nil rfl BX
set_option maxHeartbeats 4000000 in
theorem refSecond_k4_0 (a b : Int) (s t : List UInt8) (w : World) (hs : s.length ≤ 10000) (ht : t.length ≤ 10000) (hok : Ol.ok ⟨1, 4, a, b, 0, s, t⟩ = true) : Calls Tryz.prog 81 #[.agg (OC 1 4 a b 0 s t)] w (RetOl w 2 (olsC [⟨2, 8, a, 0, 0, [], []⟩, ⟨2, 9, a, 0, 0, [], []⟩])) := by
  have hv0 := Blk.new w 90 (OC 1 4 a b 0 s t)
  have B0 := bel_alloc (Below.refl w.heap.size w) (.cells (OC 1 4 a b 0 s t) 90)
  have HC := Lib.hid (fun W => refCheck16_any 1 4 a b 0 s t W (by omega) (by omega))
  rw [hok] at HC
  clear hok
  simp only [OC] at *
  go_enter Tryz.func81, Tryz.ntmps81
  go_wp2_with fail
  (with_reducible refine (HC.out _).mono ?_)
  rintro e w1 ⟨rfl, hb1⟩
  have B1 := bel_step B0 hb1
  have hv1 := hv0.below hb1 hv0.lt
  have y0 := hv1.cell 0
  have y1 := hv1.cell 1
  have y2 := hv1.cell 2
  have y3 := hv1.cell 3
  have y4 := hv1.cell 4
  have y5 := hv1.cell 5
  have y6 := hv1.cell 6
  try simp only [OC] at y0 y1 y2 y3 y4 y5 y6
  simp at y0 y1 y2 y3 y4 y5 y6
  have hs1 := B1.size
  clear hb1 B0
  have hx1 := Blk.new w1 90 #[.int .i64 2, .int .i64 0, .int .i64 a, .int .i64 0, .int .i64 0, .string ⟨#[]⟩, .string ⟨#[]⟩]
  have BX := bel_alloc B1 (.cells #[.int .i64 2, .int .i64 0, .int .i64 a, .int .i64 0, .int .i64 0, .string ⟨#[]⟩, .string ⟨#[]⟩] 90)
  have hvx := hv1.alloc (.cells #[.int .i64 2, .int .i64 0, .int .i64 a, .int .i64 0, .int .i64 0, .string ⟨#[]⟩, .string ⟨#[]⟩] 90)
  have z0 := hvx.cell 0
  have z1 := hvx.cell 1
  have z2 := hvx.cell 2
  have z3 := hvx.cell 3
  have z4 := hvx.cell 4
  have z5 := hvx.cell 5
  have z6 := hvx.cell 6
  try simp only [OC] at z0 z1 z2 z3 z4 z5 z6
  simp at z0 z1 z2 z3 z4 z5 z6
  clear hv0 hv1 hx1 hvx
  go_wp2_with fail
  go_ret
  exact RetRow.lit rfl (by first | rfl | simp [olsC, olC]) (by simp [olsC, olC]) rfl (by omega) (BX)
set_option maxHeartbeats 4000000 in
theorem refSecond_k4_1 (a b : Int) (s t : List UInt8) (w : World) (hs : s.length ≤ 10000) (ht : t.length ≤ 10000) (hok : Ol.ok ⟨1, 4, a, b, 1, s, t⟩ = true) : Calls Tryz.prog 81 #[.agg (OC 1 4 a b 1 s t)] w (RetOl w 2 (olsC [⟨2, 8, a, 0, 1, [], []⟩, ⟨2, 9, a, 0, 0, [], []⟩])) := by
  have hv0 := Blk.new w 90 (OC 1 4 a b 1 s t)
  have B0 := bel_alloc (Below.refl w.heap.size w) (.cells (OC 1 4 a b 1 s t) 90)
  have HC := Lib.hid (fun W => refCheck16_any 1 4 a b 1 s t W (by omega) (by omega))
  rw [hok] at HC
  clear hok
  simp only [OC] at *
  go_enter Tryz.func81, Tryz.ntmps81
  go_wp2_with fail
  (with_reducible refine (HC.out _).mono ?_)
  rintro e w1 ⟨rfl, hb1⟩
  have B1 := bel_step B0 hb1
  have hv1 := hv0.below hb1 hv0.lt
  have y0 := hv1.cell 0
  have y1 := hv1.cell 1
  have y2 := hv1.cell 2
  have y3 := hv1.cell 3
  have y4 := hv1.cell 4
  have y5 := hv1.cell 5
  have y6 := hv1.cell 6
  try simp only [OC] at y0 y1 y2 y3 y4 y5 y6
  simp at y0 y1 y2 y3 y4 y5 y6
  have hs1 := B1.size
  clear hb1 B0
  have hx1 := Blk.new w1 90 #[.int .i64 2, .int .i64 0, .int .i64 a, .int .i64 0, .int .i64 0, .string ⟨#[]⟩, .string ⟨#[]⟩]
  have BX := bel_alloc B1 (.cells #[.int .i64 2, .int .i64 0, .int .i64 a, .int .i64 0, .int .i64 0, .string ⟨#[]⟩, .string ⟨#[]⟩] 90)
  have hvx := hv1.alloc (.cells #[.int .i64 2, .int .i64 0, .int .i64 a, .int .i64 0, .int .i64 0, .string ⟨#[]⟩, .string ⟨#[]⟩] 90)
  have z0 := hvx.cell 0
  have z1 := hvx.cell 1
  have z2 := hvx.cell 2
  have z3 := hvx.cell 3
  have z4 := hvx.cell 4
  have z5 := hvx.cell 5
  have z6 := hvx.cell 6
  try simp only [OC] at z0 z1 z2 z3 z4 z5 z6
  simp at z0 z1 z2 z3 z4 z5 z6
  clear hv0 hv1 hx1 hvx
  go_wp2_with fail
  go_ret
  exact RetRow.lit rfl (by first | rfl | simp [olsC, olC]) (by simp [olsC, olC]) rfl (by omega) (BX)
set_option maxHeartbeats 4000000 in
theorem refSecond_k4_2 (a b : Int) (s t : List UInt8) (w : World) (hs : s.length ≤ 10000) (ht : t.length ≤ 10000) (hok : Ol.ok ⟨1, 4, a, b, 2, s, t⟩ = true) : Calls Tryz.prog 81 #[.agg (OC 1 4 a b 2 s t)] w (RetOl w 2 (olsC [⟨2, 8, a, 0, 0, [], []⟩, ⟨2, 9, a, 0, 1, [], []⟩])) := by
  have hv0 := Blk.new w 90 (OC 1 4 a b 2 s t)
  have B0 := bel_alloc (Below.refl w.heap.size w) (.cells (OC 1 4 a b 2 s t) 90)
  have HC := Lib.hid (fun W => refCheck16_any 1 4 a b 2 s t W (by omega) (by omega))
  rw [hok] at HC
  clear hok
  simp only [OC] at *
  go_enter Tryz.func81, Tryz.ntmps81
  go_wp2_with fail
  (with_reducible refine (HC.out _).mono ?_)
  rintro e w1 ⟨rfl, hb1⟩
  have B1 := bel_step B0 hb1
  have hv1 := hv0.below hb1 hv0.lt
  have y0 := hv1.cell 0
  have y1 := hv1.cell 1
  have y2 := hv1.cell 2
  have y3 := hv1.cell 3
  have y4 := hv1.cell 4
  have y5 := hv1.cell 5
  have y6 := hv1.cell 6
  try simp only [OC] at y0 y1 y2 y3 y4 y5 y6
  simp at y0 y1 y2 y3 y4 y5 y6
  have hs1 := B1.size
  clear hb1 B0
  have hx1 := Blk.new w1 90 #[.int .i64 2, .int .i64 0, .int .i64 a, .int .i64 0, .int .i64 0, .string ⟨#[]⟩, .string ⟨#[]⟩]
  have BX := bel_alloc B1 (.cells #[.int .i64 2, .int .i64 0, .int .i64 a, .int .i64 0, .int .i64 0, .string ⟨#[]⟩, .string ⟨#[]⟩] 90)
  have hvx := hv1.alloc (.cells #[.int .i64 2, .int .i64 0, .int .i64 a, .int .i64 0, .int .i64 0, .string ⟨#[]⟩, .string ⟨#[]⟩] 90)
  have z0 := hvx.cell 0
  have z1 := hvx.cell 1
  have z2 := hvx.cell 2
  have z3 := hvx.cell 3
  have z4 := hvx.cell 4
  have z5 := hvx.cell 5
  have z6 := hvx.cell 6
  try simp only [OC] at z0 z1 z2 z3 z4 z5 z6
  simp at z0 z1 z2 z3 z4 z5 z6
  clear hv0 hv1 hx1 hvx
  go_wp2_with fail
  go_ret
  exact RetRow.lit rfl (by first | rfl | simp [olsC, olC]) (by simp [olsC, olC]) rfl (by omega) (BX)
set_option maxHeartbeats 4000000 in
theorem refSecond_k4_3 (a b : Int) (s t : List UInt8) (w : World) (hs : s.length ≤ 10000) (ht : t.length ≤ 10000) (hok : Ol.ok ⟨1, 4, a, b, 3, s, t⟩ = true) : Calls Tryz.prog 81 #[.agg (OC 1 4 a b 3 s t)] w (RetOl w 2 (olsC [⟨2, 8, a, 0, 1, [], []⟩, ⟨2, 9, a, 0, 1, [], []⟩])) := by
  have hv0 := Blk.new w 90 (OC 1 4 a b 3 s t)
  have B0 := bel_alloc (Below.refl w.heap.size w) (.cells (OC 1 4 a b 3 s t) 90)
  have HC := Lib.hid (fun W => refCheck16_any 1 4 a b 3 s t W (by omega) (by omega))
  rw [hok] at HC
  clear hok
  simp only [OC] at *
  go_enter Tryz.func81, Tryz.ntmps81
  go_wp2_with fail
  (with_reducible refine (HC.out _).mono ?_)
  rintro e w1 ⟨rfl, hb1⟩
  have B1 := bel_step B0 hb1
  have hv1 := hv0.below hb1 hv0.lt
  have y0 := hv1.cell 0
  have y1 := hv1.cell 1
  have y2 := hv1.cell 2
  have y3 := hv1.cell 3
  have y4 := hv1.cell 4
  have y5 := hv1.cell 5
  have y6 := hv1.cell 6
  try simp only [OC] at y0 y1 y2 y3 y4 y5 y6
  simp at y0 y1 y2 y3 y4 y5 y6
  have hs1 := B1.size
  clear hb1 B0
  have hx1 := Blk.new w1 90 #[.int .i64 2, .int .i64 0, .int .i64 a, .int .i64 0, .int .i64 0, .string ⟨#[]⟩, .string ⟨#[]⟩]
  have BX := bel_alloc B1 (.cells #[.int .i64 2, .int .i64 0, .int .i64 a, .int .i64 0, .int .i64 0, .string ⟨#[]⟩, .string ⟨#[]⟩] 90)
  have hvx := hv1.alloc (.cells #[.int .i64 2, .int .i64 0, .int .i64 a, .int .i64 0, .int .i64 0, .string ⟨#[]⟩, .string ⟨#[]⟩] 90)
  have z0 := hvx.cell 0
  have z1 := hvx.cell 1
  have z2 := hvx.cell 2
  have z3 := hvx.cell 3
  have z4 := hvx.cell 4
  have z5 := hvx.cell 5
  have z6 := hvx.cell 6
  try simp only [OC] at z0 z1 z2 z3 z4 z5 z6
  simp at z0 z1 z2 z3 z4 z5 z6
  clear hv0 hv1 hx1 hvx
  go_wp2_with fail
  go_ret
  exact RetRow.lit rfl (by first | rfl | simp [olsC, olC]) (by simp [olsC, olC]) rfl (by omega) (BX)
set_option maxHeartbeats 4000000 in
theorem refSecond_k5_no (a b n : Int) (s t : List UInt8) (w : World) (hs : s.length ≤ 10000) (ht : t.length ≤ 10000) (hok : Ol.ok ⟨1, 5, a, b, n, s, t⟩ = true) (hw : wordsL s = []) : Calls Tryz.prog 81 #[.agg (OC 1 5 a b n s t)] w (RetOl w 0 []) := by
  have hv0 := Blk.new w 90 (OC 1 5 a b n s t)
  have B0 := bel_alloc (Below.refl w.heap.size w) (.cells (OC 1 5 a b n s t) 90)
  have HC := Lib.hid (fun W => refCheck16_any 1 5 a b n s t W (by omega) (by omega))
  have HW := Lib.hid (fun W => refWords_any s W (by omega))
  rw [hw] at HW
  clear hw
  rw [hok] at HC
  clear hok
  simp only [OC] at *
  go_enter Tryz.func81, Tryz.ntmps81
  go_wp2_with fail
  (with_reducible refine (HC.out _).mono ?_)
  rintro e w1 ⟨rfl, hb1⟩
  have B1 := bel_step B0 hb1
  have hv1 := hv0.below hb1 hv0.lt
  have y0 := hv1.cell 0
  have y1 := hv1.cell 1
  have y2 := hv1.cell 2
  have y3 := hv1.cell 3
  have y4 := hv1.cell 4
  have y5 := hv1.cell 5
  have y6 := hv1.cell 6
  try simp only [OC] at y0 y1 y2 y3 y4 y5 y6
  simp at y0 y1 y2 y3 y4 y5 y6
  have hs1 := B1.size
  clear hb1 B0
  have hx1 := Blk.new w1 90 #[.int .i64 2, .int .i64 0, .int .i64 a, .int .i64 0, .int .i64 0, .string ⟨#[]⟩, .string ⟨#[]⟩]
  have BX := bel_alloc B1 (.cells #[.int .i64 2, .int .i64 0, .int .i64 a, .int .i64 0, .int .i64 0, .string ⟨#[]⟩, .string ⟨#[]⟩] 90)
  have hvx := hv1.alloc (.cells #[.int .i64 2, .int .i64 0, .int .i64 a, .int .i64 0, .int .i64 0, .string ⟨#[]⟩, .string ⟨#[]⟩] 90)
  have z0 := hvx.cell 0
  have z1 := hvx.cell 1
  have z2 := hvx.cell 2
  have z3 := hvx.cell 3
  have z4 := hvx.cell 4
  have z5 := hvx.cell 5
  have z6 := hvx.cell 6
  try simp only [OC] at z0 z1 z2 z3 z4 z5 z6
  simp at z0 z1 z2 z3 z4 z5 z6
  have hvl0 := hv1.lt
  clear hv0 hv1
  go_wp2_with fail
  (with_reducible refine (HW.out _).mono ?_)
  rintro e w2 ⟨A2, n2, c2, rfl, ho2, hb2⟩
  have hx2 := hx1.below hb2 hx1.lt
  have hv2 := hvx.below hb2 hvx.lt
  have B2 := bel_step BX hb2
  have hn2 := ho2.ss.len
  clear hx1 hvx hb2
  simp only [List.length_nil] at hn2
  subst hn2
  go_wp2_with fail
  go_ret
  exact RetRow.nil rfl B2
set_option maxHeartbeats 4000000 in
theorem refSecond_k5_yes (a b n : Int) (s t : List UInt8) (w : World) (hs : s.length ≤ 10000) (ht : t.length ≤ 10000) (hok : Ol.ok ⟨1, 5, a, b, n, s, t⟩ = true) (x : List UInt8) (xs : List (List UInt8)) (hw : wordsL s = x :: xs) : Calls Tryz.prog 81 #[.agg (OC 1 5 a b n s t)] w (RetOl w 1 (olsC [⟨2, 10, a, 0, n, x, []⟩])) := by
  have hv0 := Blk.new w 90 (OC 1 5 a b n s t)
  have B0 := bel_alloc (Below.refl w.heap.size w) (.cells (OC 1 5 a b n s t) 90)
  have HC := Lib.hid (fun W => refCheck16_any 1 5 a b n s t W (by omega) (by omega))
  have HW := Lib.hid (fun W => refWords_any s W (by omega))
  rw [hw] at HW
  clear hw
  rw [hok] at HC
  clear hok
  simp only [OC] at *
  go_enter Tryz.func81, Tryz.ntmps81
  go_wp2_with fail
  (with_reducible refine (HC.out _).mono ?_)
  rintro e w1 ⟨rfl, hb1⟩
  have B1 := bel_step B0 hb1
  have hv1 := hv0.below hb1 hv0.lt
  have y0 := hv1.cell 0
  have y1 := hv1.cell 1
  have y2 := hv1.cell 2
  have y3 := hv1.cell 3
  have y4 := hv1.cell 4
  have y5 := hv1.cell 5
  have y6 := hv1.cell 6
  try simp only [OC] at y0 y1 y2 y3 y4 y5 y6
  simp at y0 y1 y2 y3 y4 y5 y6
  have hs1 := B1.size
  clear hb1 B0
  have hx1 := Blk.new w1 90 #[.int .i64 2, .int .i64 0, .int .i64 a, .int .i64 0, .int .i64 0, .string ⟨#[]⟩, .string ⟨#[]⟩]
  have BX := bel_alloc B1 (.cells #[.int .i64 2, .int .i64 0, .int .i64 a, .int .i64 0, .int .i64 0, .string ⟨#[]⟩, .string ⟨#[]⟩] 90)
  have hvx := hv1.alloc (.cells #[.int .i64 2, .int .i64 0, .int .i64 a, .int .i64 0, .int .i64 0, .string ⟨#[]⟩, .string ⟨#[]⟩] 90)
  have z0 := hvx.cell 0
  have z1 := hvx.cell 1
  have z2 := hvx.cell 2
  have z3 := hvx.cell 3
  have z4 := hvx.cell 4
  have z5 := hvx.cell 5
  have z6 := hvx.cell 6
  try simp only [OC] at z0 z1 z2 z3 z4 z5 z6
  simp at z0 z1 z2 z3 z4 z5 z6
  have hvl0 := hv1.lt
  clear hv0 hv1
  go_wp2_with fail
  (with_reducible refine (HW.out _).mono ?_)
  rintro e w2 ⟨A2, n2, c2, rfl, ho2, hb2⟩
  have hx2 := hx1.below hb2 hx1.lt
  have hv2 := hvx.below hb2 hvx.lt
  have B2 := bel_step BX hb2
  have hn2 := ho2.ss.len
  clear hx1 hvx hb2
  have hn1 : 0 < n2 := by rw [← hn2]; simp
  have hn1' : (0 : Int) < (n2 : Int) := by omega
  have d1 : ((n2 : Int) == 0) = false := by simp; omega
  have hss := ho2.ss
  obtain ⟨g0, hA2, hg0, _⟩ := own_where ho2 hn1
  have hvl : w.heap.size < w1.heap.size := hvl0
  clear ho2 hn2
  go_wp2_with fail
  obtain ⟨gx, hgx⟩ : ∃ gx, gx = w1.heap.size := ⟨_, rfl⟩
  obtain ⟨gv, hgv⟩ : ∃ gv, gv = w.heap.size := ⟨_, rfl⟩
  rw [← hgx] at hx2 hvl
  rw [← hgv] at hvl hv2
  have hs1 : w.heap.size ≤ gx := by omega
  have hne : some gv ≠ some gx := by simp; omega
  simp only [← hgx, ← hgv]
  obtain ⟨y, g, off, rfl, hy, hgl, hc⟩ := Ss.at hss hn1
  simp at hA2
  obtain ⟨rfl, rfl⟩ := hA2
  have hy := hy.out
  simp at hy
  subst hy
  rw [Nat.add_zero] at hc
  have hng : some g ≠ some gx := by simp at hg0; simp; omega
  clear hgv hgx z0 z1 z2 z3 z4 z5 z6 y0 y1 y2 y3 y4 y5 y6 hss
  refine wp_region_seqD (Onl gx) (Onl.refl gx) Onl.trans (by kernel_rfl) [(0, true), (1, true), (2, true), (3, true), (4, true), (5, true), (6, false), (7, true), (8, false), (9, true), (10, false)] (by kernel_rfl) rfl (by kernel_rfl) ?_
  have hx7 := hx2.drew
  have hv7 := hv2.drew
  have hc7 : w2.drew.cell? ⟨g, 0, none⟩ = some (.string ⟨x.toArray⟩) := hc
  have hgl7 : g < w2.drew.heap.size := hgl
  have B7 : Below w.heap.size w w2.drew := B2.drew
  generalize w2.drew = w7 at *
  have c0 : ∀ W, Onl gx w7 W → W.cell? ⟨gv, 0, none⟩ = some (.int .i64 1) := fun W hW => by have := (hv7.grown hW hne).cell 0; simpa using this
  have c1 : ∀ W, Onl gx w7 W → W.cell? ⟨gv, 1, none⟩ = some (.int .i64 5) := fun W hW => by have := (hv7.grown hW hne).cell 1; simpa using this
  have c2 : ∀ W, Onl gx w7 W → W.cell? ⟨gv, 2, none⟩ = some (.int .i64 a) := fun W hW => by have := (hv7.grown hW hne).cell 2; simpa using this
  have c3 : ∀ W, Onl gx w7 W → W.cell? ⟨gv, 3, none⟩ = some (.int .i64 b) := fun W hW => by have := (hv7.grown hW hne).cell 3; simpa using this
  have c4 : ∀ W, Onl gx w7 W → W.cell? ⟨gv, 4, none⟩ = some (.int .i64 n) := fun W hW => by have := (hv7.grown hW hne).cell 4; simpa using this
  have c5 : ∀ W, Onl gx w7 W → W.cell? ⟨gv, 5, none⟩ = some (.string ⟨s.toArray⟩) := fun W hW => by have := (hv7.grown hW hne).cell 5; simpa using this
  have c6 : ∀ W, Onl gx w7 W → W.cell? ⟨gv, 6, none⟩ = some (.string ⟨t.toArray⟩) := fun W hW => by have := (hv7.grown hW hne).cell 6; simpa using this
  have cw : ∀ W, Onl gx w7 W → W.cell? ⟨g, 0, none⟩ = some (.string ⟨x.toArray⟩) := fun W hW => (World.cell?_of_block (hW.block g hgl7 (fun e => hng (by rw [e])))).trans hc7
  clear hv7 hne hng hc7 hc hx2 hv2 B2 BX
  iterate 6 (refine wpSeqR_take (o := ⟨_, _, _, _, _, _⟩) (v := ?_) rfl rfl ?_ ?_; rotate_left; (focus (intro W hW; go_simp; first | done | with_reducible rfl)); simp only [Act.put, List.setIfInBounds_toArray, List.set_cons_zero, List.set_cons_succ])
  clear c0 c1 c2 c3 c4 c5 c6 cw
  have q0 := hx7.cell 0
  have q1 := hx7.cell 1
  have q2 := hx7.cell 2
  have q3 := hx7.cell 3
  have q4 := hx7.cell 4
  have q5 := hx7.cell 5
  have q6 := hx7.cell 6
  have hfz := hx7.frozen
  simp at q0 q1 q2 q3 q4 q5 q6
  refine wpSeqR_exec (o := ⟨_, _, _, _, _, _⟩) rfl rfl (fun K hK => ?_)
  go_simp
  refine hK _ _ (only_setCell (World.grownBy.refl _ _) (.inl rfl) _) ?_
  clear hK K
  iterate 1 (refine wpSeqR_take (o := ⟨_, _, _, _, _, _⟩) (v := ?_) rfl rfl ?_ ?_; rotate_left; (focus (intro W hW; go_simp; first | done | with_reducible rfl)); simp only [Act.put, List.setIfInBounds_toArray, List.set_cons_zero, List.set_cons_succ])
  refine wpSeqR_exec (o := ⟨_, _, _, _, _, _⟩) rfl rfl (fun K hK => ?_)
  go_simp
  refine hK _ _ (only_setCell (World.grownBy.refl _ _) (.inl rfl) _) ?_
  clear hK K
  iterate 1 (refine wpSeqR_take (o := ⟨_, _, _, _, _, _⟩) (v := ?_) rfl rfl ?_ ?_; rotate_left; (focus (intro W hW; go_simp; first | done | with_reducible rfl)); simp only [Act.put, List.setIfInBounds_toArray, List.set_cons_zero, List.set_cons_succ])
  refine wpSeqR_exec (o := ⟨_, _, _, _, _, _⟩) rfl rfl (fun K hK => ?_)
  go_simp
  refine hK _ _ (only_setCell (World.grownBy.refl _ _) (.inl rfl) _) ?_
  clear hK K
  refine wpSeqR_nil ?_
  go_wp2_with fail
  go_ret
  exact RetRow.lit rfl (by first | rfl | simp [olsC, olC]) (by simp [olsC, olC]) rfl (by omega) (((B7.setCell (by simp; omega) _).setCell (by simp; omega) _).setCell (by simp; omega) _)
end Go.Proofs.YtfepinnfhcjopaaGreatDoor
