/-
  FramePuts, FrameNexts, FrameScans: the walks.
-/
import Derived.Test.YtgklbejnbplbgaaDoorFrmL
namespace Go.Proofs.YtgklbejnbplbgaaDoor
open Go.RowKit Go.Nst
set_option maxRecDepth 100000
set_option linter.unusedVariables false
set_option linter.unusedSimpArgs false

set_option maxHeartbeats 4000000 in
theorem frameNexts_walk (A : Option Addr) (n c : Nat) (l : List UInt8) (w : World) (hB : Bs w A n l) (hnc : n ≤ c) (hc63 : c ≤ 9223372036854775807) (ht : Tab w) : Calls Tryd.prog 8 #[.slice A n c] w (RetTrue w) := by
  by_cases h3 : 9000 < n
  · go_enter Tryd.func8, Tryd.ntmps8
    go_wp2_with fail
    refine (lives17_any w ht).mono ?_
    rintro e w1 ⟨rfl, hb⟩
    go_wp2_with fail
    go_ret
    exact ⟨rfl, hb⟩
  have d1 : decide (9000 < (n : Int)) = false := by simp; omega
  have H1 := Lib.hid (next17_any A n c l w (by omega) hnc hc63 hB ht)
  have H2 := Lib.hid (fun W (hb : Below w.heap.size w W) => refNext17_any A n c l W (by omega) hnc hc63 (hB.below hb))
  generalize nextL l = r at *
  obtain ⟨rl, ru, rs⟩ := r
  go_enter Tryd.func8, Tryd.ntmps8
  go_wp2_with fail
  refine H1.out.mono ?_
  rintro e w1 ⟨A1, n1, c1, rfl, ho1, B1⟩
  have q1 := ho1.bs
  clear ho1
  go_wp2_with fail
  refine (H2.out w1 B1).mono ?_
  rintro e w2 ⟨A2, n2, c2, rfl, q2, hb, hnc2, hpl⟩
  have B2 := bel_step B1 hb
  have q1 := q1.below hb
  clear hb hpl
  go_wp2_with fail
  refine (lives17_any w2 (ht.below B2)).mono ?_
  rintro e w3 ⟨rfl, hb⟩
  have B3 := bel_step B2 hb
  have q1 := q1.below hb
  have q2 := q2.below hb
  have ks1 := q1.str (P := Tryd.prog) 22 9 5 c1 Tryd.underlying22 Tryd.underlying5 Tryd.underlying9
  have ks2 := q2.str (P := Tryd.prog) 22 9 5 c2 Tryd.underlying22 Tryd.underlying5 Tryd.underlying9
  clear hb q1 q2
  go_wp2_with fail
  go_ret
  exact ⟨by simp, B3⟩

set_option maxHeartbeats 4000000 in
theorem frameScans_walk (A : Option Addr) (n c : Nat) (l : List UInt8) (w : World) (hB : Bs w A n l) (hnc : n ≤ c) (hc63 : c ≤ 9223372036854775807) (ht : Tab w) : Calls Tryd.prog 9 #[.slice A n c] w (RetTrue w) := by
  by_cases h3 : 5000 < n
  · go_enter Tryd.func9, Tryd.ntmps9
    go_wp2_with fail
    refine (lives17_any w ht).mono ?_
    rintro e w1 ⟨rfl, hb⟩
    go_wp2_with fail
    go_ret
    exact ⟨rfl, hb⟩
  have d1 : decide (5000 < (n : Int)) = false := by simp; omega
  have H1 := Lib.hid (scan17_any A n c l w (by omega) hnc hc63 hB ht)
  have H2 := Lib.hid (fun W (hb : Below w.heap.size w W) => refScan17_any A n c l W (by omega) hnc hc63 (hB.below hb))
  have HL := Lib.hid (scan_len l)
  have hl := hB.len
  generalize scanL l = r at *
  obtain ⟨rl, ru, rs⟩ := r
  go_enter Tryd.func9, Tryd.ntmps9
  go_wp2_with fail
  refine H1.out.mono ?_
  rintro e w1 ⟨A1, n1, c1, ps, rfl, p1, e1, B1⟩
  have HE1 : Hid (ps.map Part.l = rl) := Lib.hid e1
  have hn1 : n1 ≤ n := by rw [← p1.len, ← hl]; have := HL.out; rw [← HE1.out, List.length_map] at this; exact this
  clear e1
  go_wp2_with fail
  refine (H2.out w1 B1).mono ?_
  rintro e w2 ⟨A2, n2, c2, qs, rfl, p2, e2, hb⟩
  have HE2 : Hid (qs.map Part.l = rl) := Lib.hid e2
  have B2 := bel_step B1 hb
  have p1 := p1.below hb
  clear hb e2
  go_wp2_with fail
  refine (lives17_any w2 (ht.below B2)).mono ?_
  rintro e w3 ⟨rfl, hb⟩
  have B3 := bel_step B2 hb
  have p1 := p1.below hb
  have p2 := p2.below hb
  clear hb
  go_wp2_with fail
  refine (same17_any A1 A2 n1 c1 n2 c2 ps qs w3 (by omega) p1.reads p2.reads p1.bs p2.bs (HE1.out.trans HE2.out.symm)).mono ?_
  rintro e w4 ⟨rfl, hb⟩
  have B4 := bel_step B3 hb
  go_wp2_with fail
  go_ret
  exact ⟨by simp, B4⟩

set_option maxHeartbeats 4000000 in
theorem framePuts_walk (A B : Option Addr) (n c m d : Nat) (l lb : List UInt8) (w : World) (hA : Bs w A n l) (hB : Bs w B m lb) (hnc : n ≤ c) (hc63 : c ≤ 9223372036854775807) (hmd : m ≤ d) (hd63 : d ≤ 9223372036854775807) (ht : Tab w) : Calls Tryd.prog 7 #[.slice A n c, .slice B m d] w (RetTrue w) := by
  have hl := hA.len
  by_cases h3 : 9000 < n
  · have d1 : decide (9000 < (n : Int)) = true := by simp; omega
    go_enter Tryd.func7, Tryd.ntmps7
    go_wp2_with fail
    refine (lives17_any w ht).mono ?_
    rintro e w1 ⟨rfl, hb⟩
    go_wp2_with fail
    go_ret
    exact ⟨rfl, hb⟩
  have d1 : decide (9000 < (n : Int)) = false := by simp; omega
  by_cases h4 : 100 < m
  · have d2 : decide (100 < (m : Int)) = true := by simp; omega
    go_enter Tryd.func7, Tryd.ntmps7
    go_wp2_with fail
    refine (lives17_any w ht).mono ?_
    rintro e w1 ⟨rfl, hb⟩
    go_wp2_with fail
    go_ret
    exact ⟨rfl, hb⟩
  have d2 : decide (100 < (m : Int)) = false := by simp; omega
  have HP := Lib.hid (put17_any A n c l w (by omega) hA ht)
  have HZ := Lib.hid (fun W => size17_any (n : Int) W)
  by_cases h5 : n = 0
  · have HE : Hid (putE l = ([], 1)) := by unfold putE; rw [if_pos (by omega)]; exact Lib.hid rfl
    rw [HE.out] at HP
    subst h5
    go_enter Tryd.func7, Tryd.ntmps7
    go_wp2_with fail
    refine HP.out.mono ?_
    rintro e w1 ⟨A1, n1, c1, rfl, ho1, B1⟩
    have hn1 : 0 = n1 := by have := ho1.len; simpa using this
    subst hn1
    clear ho1
    go_wp2_with fail
    refine (lives17_any w1 (ht.below B1)).mono ?_
    rintro e w2 ⟨rfl, hb⟩
    have B2 := bel_step B1 hb
    clear hb
    go_wp2_with fail
    refine (size17_any 0 w2).mono ?_
    rw [show sizeN 0 = 0 from rfl]
    rintro e w3 ⟨rfl, hb⟩
    have B3 := bel_step B2 hb
    clear hb
    go_wp2_with fail
    go_ret
    exact ⟨rfl, B3⟩
  have d5 : ((n : Int) == 0) = false := by simp; omega
  by_cases h6 : 8192 < n
  · have HE : Hid (putE l = ([], 3)) := by unfold putE; rw [if_neg (by omega), if_pos (by omega)]; exact Lib.hid rfl
    rw [HE.out] at HP
    have d6 : decide (8192 < (n : Int)) = true := by simp; omega
    rw [show sizeN (n : Int) = 0 by unfold sizeN; rw [if_pos (by omega)]] at HZ
    go_enter Tryd.func7, Tryd.ntmps7
    go_wp2_with fail
    refine HP.out.mono ?_
    rintro e w1 ⟨A1, n1, c1, rfl, ho1, B1⟩
    have hn1 : 0 = n1 := by have := ho1.len; simpa using this
    subst hn1
    clear ho1
    go_wp2_with fail
    refine (lives17_any w1 (ht.below B1)).mono ?_
    rintro e w2 ⟨rfl, hb⟩
    have B2 := bel_step B1 hb
    clear hb
    go_wp2_with fail
    refine (HZ.out w2).mono ?_
    rintro e w3 ⟨rfl, hb⟩
    have B3 := bel_step B2 hb
    clear hb
    go_wp2_with fail
    go_ret
    exact ⟨rfl, B3⟩
  have d6 : decide (8192 < (n : Int)) = false := by simp; omega
  have HE : Hid (putE l = (frameL l, 0)) := by unfold putE; rw [if_neg (by omega), if_neg (by omega)]; exact Lib.hid rfl
  rw [HE.out] at HP
  have hfl : (frameL l).length = (putL (zig (n : Int))).length + n + 4 := by unfold frameL; rw [List.length_append, seal_len, hl]; omega
  have hpl := (putL_len (zig (n : Int))).2
  rw [show sizeN (n : Int) = ((frameL l).length : Int) by unfold sizeN; rw [if_neg (by omega), hfl]; simp] at HZ
  have HX := Lib.hid (next_frame l lb (by omega) (by omega))
  have HR := Lib.hid (fun W (hb : Below w.heap.size w W) => refPut17_any A n c l W (by omega) (hA.below hb))
  generalize frameL l = f at *
  have hfn : f.length ≤ 9000 := by omega
  clear hfl
  go_enter Tryd.func7, Tryd.ntmps7
  go_wp2_with fail
  refine HP.out.mono ?_
  rintro e w1 ⟨A1, n1, c1, rfl, ho1, B1⟩
  have hn1 := ho1.len
  have q1 := ho1.bs
  rw [hn1] at HX HZ
  clear ho1
  go_wp2_with fail
  refine (lives17_any w1 (ht.below B1)).mono ?_
  rintro e w2 ⟨rfl, hb⟩
  have B2 := bel_step B1 hb
  have q1 := q1.below hb
  clear hb
  have hO : Ow (w2.alloc (.cells #[] 5)) w2.heap.size (some ⟨w2.heap.size, 0, none⟩) 0 0 [] := Ow.made w2 [] #[] rfl (by simp [maxLen]) (Nat.le_refl _)
  have qa := q1.alloc (.cells #[] 5)
  go_wp2_with (first
    | (at_builtin; have _t := hO; refine wpList_appBg _ iBytes rfl rfl rfl hO rfl qa n1 f (by simp) rfl (by omega) (by simp) ?_; intro A3 c3 w3 ho3 hb _ _; clear hO _t; have hb3 : Below w2.heap.size w2 w3 := ((Below.refl _ _).alloc (Nat.le_refl _) _).trans hb; clear hb; have hs3 := hb3.size; have qq := (hB.below B2).below hb3)
    | (at_builtin; refine wpList_appBg _ iBytes rfl rfl rfl ho3 rfl qq (n1 + m) (f ++ lb) rfl rfl (by omega) (by omega) ?_; intro A4 c4 w4 ho4 hb4 _ _))
  have S4 := hb3.trans hb4
  have B4 : Below w.heap.size w w4 := bel_step B2 S4
  have q1 := q1.below S4
  clear ho3 hb3 hb4 qa qq hs3 S4
  refine (next17_any A4 (n1 + m) c4 (f ++ lb) w4 (by omega) ho4.cap (ow_cap63 ho4) ho4.bs (ht.below B4)).mono ?_
  rw [HX.out]
  rintro e w5 ⟨A5, n5, c5, rfl, ho5, hb⟩
  have B5 := bel_step B4 hb
  have q1 := q1.below hb
  have q5 := ho5.bs
  have q0 := hA.below B5
  clear hb ho4 ho5
  have ks1 := fun W (hb : Below w5.heap.size w5 W) => (q1.below hb).str (P := Tryd.prog) 22 9 5 c1 Tryd.underlying22 Tryd.underlying5 Tryd.underlying9
  have ks5 := fun W (hb : Below w5.heap.size w5 W) => (q5.below hb).str (P := Tryd.prog) 22 9 5 c5 Tryd.underlying22 Tryd.underlying5 Tryd.underlying9
  have ks0 := fun W (hb : Below w5.heap.size w5 W) => (q0.below hb).str (P := Tryd.prog) 22 9 5 c Tryd.underlying22 Tryd.underlying5 Tryd.underlying9
  go_wp2_with fail
  refine wp_region_seq (by kernel_rfl) [(0, true), (1, true), (2, true), (3, true), (4, true), (5, true), (6, false), (7, true), (8, true), (9, true), (10, true), (11, true), (12, true), (14, true), (15, true), (13, false), (16, true), (17, true), (18, true), (19, true), (20, true), (21, true), (22, true), (23, true), (24, true), (25, true), (26, true), (27, true), (28, true), (29, true), (30, true), (31, true), (32, true), (33, true), (34, true), (35, true)] (by kernel_rfl) rfl (by kernel_rfl) ?_
  intro w6 hb6
  have tr6 : ∀ W, Below w6.heap.size w6 W → Below w5.heap.size w5 W := fun W h => bel_step hb6 h
  iterate 6 (refine wpSeq_take (o := ⟨_, _, _, _, _, _⟩) (v := ?_) rfl rfl ?_ ?_; rotate_left; (focus (intro W hW; go_simp; first | done | with_reducible rfl)); simp only [Act.put, List.setIfInBounds_toArray, List.set_cons_zero, List.set_cons_succ])
  refine wpSeq_exec (o := ⟨_, _, _, _, _, _⟩) rfl rfl (fun K hK => ?_)
  go_simp
  refine (HR.out w6 (bel_step B5 hb6)).mono ?_
  rintro e w7 ⟨A7, n7, c7, rfl, ho7, hb7⟩
  go_wp2_with fail
  refine hK _ _ hb7 ?_
  clear hK K
  have S7 := bel_step hb6 hb7
  have tr7 : ∀ W, Below w7.heap.size w7 W → Below w5.heap.size w5 W := fun W h => bel_step S7 h
  have ks7 := fun W (hb : Below w7.heap.size w7 W) => (ho7.bs.below hb).str (P := Tryd.prog) 22 9 5 c7 Tryd.underlying22 Tryd.underlying5 Tryd.underlying9
  iterate 8 (refine wpSeq_take (o := ⟨_, _, _, _, _, _⟩) (v := ?_) rfl rfl ?_ ?_; rotate_left; (focus (intro W hW; go_simp; first | done | with_reducible rfl)); simp only [Act.put, List.setIfInBounds_toArray, List.set_cons_zero, List.set_cons_succ])
  refine wpSeq_exec (o := ⟨_, _, _, _, _, _⟩) rfl rfl (fun K hK => ?_)
  go_simp
  refine (HZ.out w7).mono ?_
  rintro e w8 ⟨rfl, hb8⟩
  go_wp2_with fail
  refine hK _ _ hb8 ?_
  clear hK K
  have S8 := bel_step S7 hb8
  have tr8 : ∀ W, Below w8.heap.size w8 W → Below w5.heap.size w5 W := fun W h => bel_step S8 h
  have tr9 : ∀ W, Below w8.heap.size w8 W → Below w7.heap.size w7 W := fun W h => bel_step hb8 h
  iterate 20 (refine wpSeq_take (o := ⟨_, _, _, _, _, _⟩) (v := ?_) rfl rfl ?_ ?_; rotate_left; (focus (intro W hW; go_simp; first | done | with_reducible rfl)); simp only [Act.put, List.setIfInBounds_toArray, List.set_cons_zero, List.set_cons_succ])
  refine wpSeq_nil ?_
  go_wp2_with fail
  go_ret
  exact ⟨rfl, bel_step B5 S8⟩
end Go.Proofs.YtgklbejnbplbgaaDoor
