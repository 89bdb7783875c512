/-
  The four statements' walks.
-/
import Derived.Test.YtedliepfaibefaaDoorOlW
namespace Go.Proofs.YtedliepfaibefaaDoor
open Go.RowKit Go.Nst
set_option maxRecDepth 100000
set_option linter.unusedVariables false
set_option linter.unusedSimpArgs false

theorem olL_len {o : Ol} (h : o.ok = true) : (olL o).length ≤ 3000 := by
  have f := olF h
  have h1 := f.s
  have h2 := f.t
  unfold olL olT numsL textsL
  simp only [List.length_append, List.length_cons, List.length_nil]
  have a1 := selN_len (sN o.v o.k) 0 o.a
  have a2 := selN_len (sN o.v o.k) 1 o.b
  have a3 := selN_len (sN o.v o.k) 2 o.n
  have b1 := selT_len (sT o.v o.k) 0 o.s
  have b2 := selT_len (sT o.v o.k) 1 o.t
  have b3 := selT_len (sT o.v o.k) 2 ([] : List UInt8)
  simp only [List.length_nil] at b3
  omega
set_option maxHeartbeats 4000000 in
theorem oldPuts_walk (v k a b n : Int) (s t : List UInt8) (w : World) (hs : s.length ≤ 9223372036854775807) (ht : t.length ≤ 9223372036854775807) (hN : Nms w) :
    Calls Tryd.prog 3 #[.agg (OC v k a b n s t)] w (RetTrue w) := by
  have HL := Lib.hid (fun W => large16_any v k a b n s t W hs ht)
  have HV := Lib.hid (fun W h => lives16_any W h)
  have B0 := bel_alloc (Below.refl w.heap.size w) (.cells (OC v k a b n s t) 23)
  have hv0 := Blk.new w 23 (OC v k a b n s t)
  cases hl : large16 s t with
  | true =>
    rw [hl] at HL
    clear hl
    simp only [OC] at *
    go_enter Tryd.func3, Tryd.ntmps3
    go_wp2_with fail
    (with_reducible refine (HL.out _).mono ?_)
    rintro e w1 ⟨rfl, hb1⟩
    have B1 := bel_step B0 hb1
    have hN1 := hN.below B1
    go_wp2_with fail
    (with_reducible refine (HV.out _ hN1).mono ?_)
    rintro e w2 ⟨rfl, hb2⟩
    go_wp2_with fail
    go_ret
    exact ⟨rfl, bel_step B1 hb2⟩
  | false =>
    rw [hl] at HL
    obtain ⟨h1, h2⟩ := large16_no hl
    clear hl
    have HC := Lib.hid (fun W => refCheck16_any v k a b n s t W (by omega) (by omega))
    have HK := Lib.hid (fun W h => oldCheck_any v k a b n s t W (by omega) (by omega) h)
    cases hok : Ol.ok ⟨v, k, a, b, n, s, t⟩ with
    | false =>
      rw [hok] at HC HK
      have HP := Lib.hid (fun W h => oldPut_no ⟨v, k, a, b, n, s, t⟩ W (by simp only; omega) (by simp only; omega) h hok)
      clear hok
      simp only [OC, Bool.false_eq_true, if_false] at *
      go_enter Tryd.func3, Tryd.ntmps3
      go_wp2_with fail
      (with_reducible refine (HL.out _).mono ?_)
      rintro e w1 ⟨rfl, hb1⟩
      have hv1 := hv0.below hb1 hv0.lt
      have v0 := hv1.cell 0
      have v1 := hv1.cell 1
      have v2 := hv1.cell 2
      have v3 := hv1.cell 3
      have v4 := hv1.cell 4
      have v5 := hv1.cell 5
      have v6 := hv1.cell 6
      try simp only [OC] at v0 v1 v2 v3 v4 v5 v6
      simp at v0 v1 v2 v3 v4 v5 v6
      have B1 := bel_step B0 hb1
      have hN1 := hN.below B1
      clear hb1
      go_wp2_with fail
      (with_reducible refine (HP.out _ hN1).mono ?_)
      rintro e w2 ⟨rfl, hb2⟩
      have hv2 := hv1.below hb2 hv1.lt
      have y0 := hv2.cell 0
      have y1 := hv2.cell 1
      have y2 := hv2.cell 2
      have y3 := hv2.cell 3
      have y4 := hv2.cell 4
      have y5 := hv2.cell 5
      have y6 := hv2.cell 6
      try simp only [OC] at y0 y1 y2 y3 y4 y5 y6
      simp at y0 y1 y2 y3 y4 y5 y6
      have B2 := bel_step B1 hb2
      have hN2 := hN.below B2
      clear hb2
      go_wp2_with fail
      (with_reducible refine (HV.out _ hN2).mono ?_)
      rintro e w3 ⟨rfl, hb3⟩
      have hv3 := hv2.below hb3 hv2.lt
      have z0 := hv3.cell 0
      have z1 := hv3.cell 1
      have z2 := hv3.cell 2
      have z3 := hv3.cell 3
      have z4 := hv3.cell 4
      have z5 := hv3.cell 5
      have z6 := hv3.cell 6
      try simp only [OC] at z0 z1 z2 z3 z4 z5 z6
      simp at z0 z1 z2 z3 z4 z5 z6
      have B3 := bel_step B2 hb3
      clear hb3
      go_wp2_with fail
      (with_reducible refine (HC.out _).mono ?_)
      rintro e w4 ⟨rfl, hb4⟩
      have hv4 := hv3.below hb4 hv3.lt
      have o0 := hv4.cell 0
      have o1 := hv4.cell 1
      have o2 := hv4.cell 2
      have o3 := hv4.cell 3
      have o4 := hv4.cell 4
      have o5 := hv4.cell 5
      have o6 := hv4.cell 6
      try simp only [OC] at o0 o1 o2 o3 o4 o5 o6
      simp at o0 o1 o2 o3 o4 o5 o6
      have B4 := bel_step B3 hb4
      have hN4 := hN.below B4
      clear hb4
      go_wp2_with fail
      (with_reducible refine (HK.out _ hN4).mono ?_)
      rintro e w5 ⟨rfl, hb5⟩
      go_wp2_with fail
      go_ret
      exact ⟨rfl, bel_step B4 hb5⟩
    | true =>
      rw [hok] at HC HK
      have HP := Lib.hid (fun W h => oldPut_yes ⟨v, k, a, b, n, s, t⟩ W h hok)
      have HR := Lib.hid (fun W => refPut16_any ⟨v, k, a, b, n, s, t⟩ W hok)
      have hge := get_ol (o := ⟨v, k, a, b, n, s, t⟩) hok
      have hcl := olL_len (o := ⟨v, k, a, b, n, s, t⟩) hok
      clear hok
      simp only [OC, if_true] at *
      generalize olL ⟨v, k, a, b, n, s, t⟩ = l at *
      have HG := Lib.hid (fun A m c W (h : Bs W A m l) j => oldGet_any A m c l W (by rw [← h.len]; omega) h j)
      rw [hge] at HG
      simp only [getOV, OC] at HG
      clear hge
      go_enter Tryd.func3, Tryd.ntmps3
      go_wp2_with fail
      (with_reducible refine (HL.out _).mono ?_)
      rintro e w1 ⟨rfl, hb1⟩
      have hv1 := hv0.below hb1 hv0.lt
      have v0 := hv1.cell 0
      have v1 := hv1.cell 1
      have v2 := hv1.cell 2
      have v3 := hv1.cell 3
      have v4 := hv1.cell 4
      have v5 := hv1.cell 5
      have v6 := hv1.cell 6
      try simp only [OC] at v0 v1 v2 v3 v4 v5 v6
      simp at v0 v1 v2 v3 v4 v5 v6
      have B1 := bel_step B0 hb1
      have hN1 := hN.below B1
      clear hb1
      go_wp2_with fail
      (with_reducible refine (HP.out _ hN1).mono ?_)
      rintro e w2 ⟨A2, n2, c2, rfl, ho2, hb2⟩
      have hv2 := hv1.below hb2 hv1.lt
      have y0 := hv2.cell 0
      have y1 := hv2.cell 1
      have y2 := hv2.cell 2
      have y3 := hv2.cell 3
      have y4 := hv2.cell 4
      have y5 := hv2.cell 5
      have y6 := hv2.cell 6
      try simp only [OC] at y0 y1 y2 y3 y4 y5 y6
      simp at y0 y1 y2 y3 y4 y5 y6
      have B2 := bel_step B1 hb2
      have hN2 := hN.below B2
      have hq2 := ho2.bs
      have hn2 := ho2.len
      have HN2 := Lib.hid hn2
      have hn2' : n2 ≤ 3000 := by omega
      clear hb2 hn2 ho2
      go_wp2_with fail
      (with_reducible refine (HV.out _ hN2).mono ?_)
      rintro e w3 ⟨rfl, hb3⟩
      have hv3 := hv2.below hb3 hv2.lt
      have z0 := hv3.cell 0
      have z1 := hv3.cell 1
      have z2 := hv3.cell 2
      have z3 := hv3.cell 3
      have z4 := hv3.cell 4
      have z5 := hv3.cell 5
      have z6 := hv3.cell 6
      try simp only [OC] at z0 z1 z2 z3 z4 z5 z6
      simp at z0 z1 z2 z3 z4 z5 z6
      have hq3 := hq2.below hb3
      have B3 := bel_step B2 hb3
      clear hb3
      go_wp2_with fail
      (with_reducible refine (HC.out _).mono ?_)
      rintro e w4 ⟨rfl, hb4⟩
      have hv4 := hv3.below hb4 hv3.lt
      have hq4 := hq3.below hb4
      have B4 := bel_step B3 hb4
      have hN4 := hN.below B4
      clear hb4
      go_wp2_with fail
      (with_reducible refine (HG.out _ _ _ _ hq4 hN4).mono ?_)
      rintro e w5 ⟨rfl, hb5⟩
      have hv5 := (hv4.below hb5 hv4.lt).alloc (.cells (OC v k a b n s t) 23)
      have hx5 := Blk.new w5 23 (OC v k a b n s t)
      have hq5 := (hq4.below hb5).alloc (.cells (OC v k a b n s t) 23)
      have B5 := bel_alloc (bel_step B4 hb5) (.cells (OC v k a b n s t) 23)
      have hN5 := hN.below B5
      simp only [OC] at hv5 hx5 hq5 B5 hN5
      clear hb5 hv4 hq4 B4 hv3 hq3 B3 hv2 hq2 B2 hv1 B1 hN1 hN2 hN4
      go_wp2_with fail
      refine wp_region_seq (by kernel_rfl) [(0, true), (1, true), (2, true), (3, true), (4, false), (5, true), (6, true), (7, true), (8, true), (9, true), (10, true), (11, false), (12, true), (13, true), (14, true), (15, true), (16, true), (17, true), (18, true), (19, true), (20, true), (21, true), (22, true), (23, true), (24, true)] (by kernel_rfl) rfl (by kernel_rfl) ?_
      obtain ⟨g5, hg5⟩ : ∃ g, g = w5.heap.size := ⟨_, rfl⟩
      rw [← hg5] at hx5
      simp only [← hg5]
      generalize w5.alloc (.cells #[.int .i64 v, .int .i64 k, .int .i64 a, .int .i64 b, .int .i64 n, .string ⟨s.toArray⟩, .string ⟨t.toArray⟩] 23) = w6 at *
      clear hg5
      intro w7 hb7
      have hv7 := hv5.below hb7 hv5.lt
      have hx7 := hx5.below hb7 hx5.lt
      have hq7 := hq5.below hb7
      have hN7 := hN5.below hb7
      have B7 := bel_step B5 hb7
      clear hb7 hv5 hx5 hq5 B5 hN5
      have cv : ∀ W, Below w7.heap.size w7 W → Blk W w.heap.size 23 #[.int .i64 v, .int .i64 k, .int .i64 a, .int .i64 b, .int .i64 n, .string ⟨s.toArray⟩, .string ⟨t.toArray⟩] := fun W hW => hv7.below hW hv7.lt
      have cx : ∀ W, Below w7.heap.size w7 W → Blk W g5 23 #[.int .i64 v, .int .i64 k, .int .i64 a, .int .i64 b, .int .i64 n, .string ⟨s.toArray⟩, .string ⟨t.toArray⟩] := fun W hW => hx7.below hW hx7.lt
      have v0 := fun W (hW : Below w7.heap.size w7 W) => (show W.cell? ⟨w.heap.size, 0, none⟩ = _ from ((cv W hW).cell 0).trans rfl)
      have v1 := fun W (hW : Below w7.heap.size w7 W) => (show W.cell? ⟨w.heap.size, 1, none⟩ = _ from ((cv W hW).cell 1).trans rfl)
      have v2 := fun W (hW : Below w7.heap.size w7 W) => (show W.cell? ⟨w.heap.size, 2, none⟩ = _ from ((cv W hW).cell 2).trans rfl)
      have v3 := fun W (hW : Below w7.heap.size w7 W) => (show W.cell? ⟨w.heap.size, 3, none⟩ = _ from ((cv W hW).cell 3).trans rfl)
      have v4 := fun W (hW : Below w7.heap.size w7 W) => (show W.cell? ⟨w.heap.size, 4, none⟩ = _ from ((cv W hW).cell 4).trans rfl)
      have v5 := fun W (hW : Below w7.heap.size w7 W) => (show W.cell? ⟨w.heap.size, 5, none⟩ = _ from ((cv W hW).cell 5).trans rfl)
      have v6 := fun W (hW : Below w7.heap.size w7 W) => (show W.cell? ⟨w.heap.size, 6, none⟩ = _ from ((cv W hW).cell 6).trans rfl)
      have x0 := fun W (hW : Below w7.heap.size w7 W) => (show W.cell? ⟨g5, 0, none⟩ = _ from ((cx W hW).cell 0).trans rfl)
      have x1 := fun W (hW : Below w7.heap.size w7 W) => (show W.cell? ⟨g5, 1, none⟩ = _ from ((cx W hW).cell 1).trans rfl)
      have x2 := fun W (hW : Below w7.heap.size w7 W) => (show W.cell? ⟨g5, 2, none⟩ = _ from ((cx W hW).cell 2).trans rfl)
      have x3 := fun W (hW : Below w7.heap.size w7 W) => (show W.cell? ⟨g5, 3, none⟩ = _ from ((cx W hW).cell 3).trans rfl)
      have x4 := fun W (hW : Below w7.heap.size w7 W) => (show W.cell? ⟨g5, 4, none⟩ = _ from ((cx W hW).cell 4).trans rfl)
      have x5 := fun W (hW : Below w7.heap.size w7 W) => (show W.cell? ⟨g5, 5, none⟩ = _ from ((cx W hW).cell 5).trans rfl)
      have x6 := fun W (hW : Below w7.heap.size w7 W) => (show W.cell? ⟨g5, 6, none⟩ = _ from ((cx W hW).cell 6).trans rfl)
      clear cv cx hv7 hx7 hv0
      have ks := fun W (hb : Below w7.heap.size w7 W) => (hq7.below hb).str (P := Tryd.prog) 26 9 5 c2 Tryd.underlying26 Tryd.underlying5 Tryd.underlying9
      iterate 4 (refine wpSeq_take (o := ⟨_, _, _, _, _, _⟩) (v := ?_) rfl rfl ?_ ?_; rotate_left; (focus (intro W hW; go_simp; first | done | with_reducible rfl)); simp only [Act.put, List.setIfInBounds_toArray, List.set_cons_zero, List.set_cons_succ])
      refine wpSeq_exec (o := ⟨_, _, _, _, _, _⟩) rfl rfl (fun K hK => ?_)
      go_simp
      (with_reducible refine (HK.out w7 hN7).mono ?_)
      rintro e w8 ⟨rfl, hb8⟩
      go_wp2_with fail
      refine hK _ _ hb8 ?_
      clear hK K
      have tr8 : ∀ W, Below w8.heap.size w8 W → Below w7.heap.size w7 W := fun W h => bel_step hb8 h
      iterate 6 (refine wpSeq_take (o := ⟨_, _, _, _, _, _⟩) (v := ?_) rfl rfl ?_ ?_; rotate_left; (focus (intro W hW; go_simp; first | done | with_reducible rfl)); simp only [Act.put, List.setIfInBounds_toArray, List.set_cons_zero, List.set_cons_succ])
      refine wpSeq_exec (o := ⟨_, _, _, _, _, _⟩) rfl rfl (fun K hK => ?_)
      go_simp
      (with_reducible refine (HR.out w8).mono ?_)
      rintro e w9 ⟨A9, n9, c9, rfl, ho9, hb9⟩
      go_wp2_with fail
      refine hK _ _ hb9 ?_
      clear hK K
      have tr9 : ∀ W, Below w9.heap.size w9 W → Below w7.heap.size w7 W := fun W h => tr8 W (bel_step hb9 h)
      have hq9 := ho9.bs
      have ks9 := fun W (hb : Below w9.heap.size w9 W) => (hq9.below hb).str (P := Tryd.prog) 26 9 5 c9 Tryd.underlying26 Tryd.underlying5 Tryd.underlying9
      iterate 13 (refine wpSeq_take (o := ⟨_, _, _, _, _, _⟩) (v := ?_) rfl rfl ?_ ?_; rotate_left; (focus (intro W hW; go_simp; first | done | with_reducible rfl)); simp only [Act.put, List.setIfInBounds_toArray, List.set_cons_zero, List.set_cons_succ])
      refine wpSeq_nil ?_
      go_wp2_with fail
      go_ret
      exact ⟨rfl, bel_step B7 (bel_step hb8 hb9)⟩
end Go.Proofs.YtedliepfaibefaaDoor
