/-
  NumReads: the walk.
-/
import Derived.Test.YtgklbejnbplbgaaNumL
import Derived.Test.YtgklbejnbplbgaaRead4
namespace Go.Proofs.Ytgklbejnbplbgaa
open Go.RowKit Go.Nst
set_option maxRecDepth 100000
set_option linter.unusedVariables false

/-- both readers hold the same -/
def Both (w : World) (g g2 : Nat) (s : RS) : Prop := Rd w g s ∧ RdT 47 w g2 s
theorem Both.step {w w1 w2 : World} {g g2 : Nat} {s s' : RS} (h : Both w g g2 s) (h1 : Rd w1 g s') (hg1 : w.grownBy w1 (some g)) (h2 : RdT 47 w1 g2 s → RdT 47 w2 g2 s' ∧ w1.grownBy w2 (some g2)) : Both w2 g g2 s' := by
  have k0 := RdT.other h.2 h.1 hg1 (RdT.ne h.2 h.1 (by decide))
  obtain ⟨k1, k2⟩ := h2 k0
  exact ⟨RdT.other h1 k0 k2 (RdT.ne h1 k0 (by decide)), k1⟩
theorem Both.mid {w w1 : World} {g g2 : Nat} {s : RS} (h : Both w g g2 s) (hg1 : w.grownBy w1 (some g)) : RdT 47 w1 g2 s := RdT.other h.2 h.1 hg1 (RdT.ne h.2 h.1 (by decide))

theorem refBad_cell {w W : World} {g : Nat} {s : RS} (h : RdT 47 w g s) (hb : Below w.heap.size w W) : W.cell? ⟨g, 1, none⟩ = some (.bool s.bad) := by
  obtain ⟨A, n, c, h1, _⟩ := RdT.below h hb
  exact h1.cell 1

set_option maxHeartbeats 4000000 in
theorem numReads_walk (A : Option Addr) (n c : Nat) (la : List UInt8) (B : Option Addr) (m d : Nat) (lb : List Int) (w : World) (hA : Bs w A n la) (hnc : n ≤ c) (hn : n ≤ 9223372036854775807) (hB : Is w B m lb) (hm : m ≤ 9223372036854775807) :
    Calls Try.prog 6 #[.slice A n c, .slice B m d] w (RetTrue w) := by
  by_cases hn3 : 2000 < n
  · go_enter Try.func6, Try.ntmps6
    go_wp2_with fail
    refine (lives01_any w).mono ?_
    rintro e w1 ⟨rfl, hb⟩
    go_wp2_with fail
    go_ret
    exact ⟨rfl, hb⟩
  have d1 : decide (2000 < (n : Int)) = false := by simp; omega
  by_cases hm3 : 200 < m
  · go_enter Try.func6, Try.ntmps6
    go_wp2_with fail
    refine (lives01_any w).mono ?_
    rintro e w1 ⟨rfl, hb⟩
    go_wp2_with fail
    go_ret
    exact ⟨rfl, hb⟩
  have d2 : decide (200 < (m : Int)) = false := by simp; omega
  have hO : Ow (w.alloc (.cells #[] 5)) w.heap.size (some ⟨w.heap.size, 0, none⟩) 0 0 [] := Ow.made w [] #[] rfl (by simp [maxLen]) (Nat.le_refl _)
  have hA0 := hA.alloc (.cells #[] 5)
  go_enter Try.func6, Try.ntmps6
  go_wp2_with (at_builtin; have _t := hO; refine wpList_appBg _ iBytes rfl rfl rfl hO rfl hA0 n la (by simp) rfl (by omega) (by simp) ?_; intro A1 c1 w1 ho1 hb _ _; clear hO _t; have B1 : Below w.heap.size w w1 := ((Below.refl _ _).alloc (Nat.le_refl _) _).trans hb; clear hb)
  clear hA0
  refine (from_any A1 n c1 la w1 (by omega) ho1.bs).mono ?_
  rintro e w2 ⟨g, rfl, hR2, hg2, hb2⟩
  have hgw : w.heap.size ≤ g := Nat.le_trans B1.size hg2
  have B2 := bel_step B1 hb2
  clear ho1 hb2 hg2
  have hO : Ow (w2.alloc (.cells #[] 5)) w2.heap.size (some ⟨w2.heap.size, 0, none⟩) 0 0 [] := Ow.made w2 [] #[] rfl (by simp [maxLen]) (Nat.le_refl _)
  have hA2 := (hA.below B2).alloc (.cells #[] 5)
  go_wp2_with (at_builtin; have _t := hO; refine wpList_appBg _ iBytes rfl rfl rfl hO rfl hA2 n la (by simp) rfl (by omega) (by simp) ?_; intro A3 c3 w3 ho3 hb _ _; clear hO _t; have hb3 : Below w2.heap.size w2 w3 := ((Below.refl _ _).alloc (Nat.le_refl _) _).trans hb; clear hb)
  clear hA2
  have hBoth : Both (w3.alloc (.cells #[.slice A3 n c3, .bool false] 47)) g w3.heap.size ⟨la, false⟩ := ⟨RdT.below (RdT.below hR2 hb3) (bel_alloc (Below.refl _ _) _), ⟨A3, n, c3, Blk.new w3 _ _, ho3.bs.alloc _, ho3.cap, by omega⟩⟩
  have B3 : Below w.heap.size w (w3.alloc (.cells #[.slice A3 n c3, .bool false] 47)) := bel_alloc (bel_step B2 hb3) _
  have hg2w : w.heap.size ≤ w3.heap.size := (bel_step B2 hb3).size
  generalize w3.alloc (.cells #[.slice A3 n c3, .bool false] 47) = w4 at *
  generalize w3.heap.size = g2 at *
  clear ho3 hb3 hR2
  refine (lives01_any w4).mono ?_
  rintro e w5 ⟨rfl, hb5⟩
  have hBoth : Both w5 g g2 ⟨la, false⟩ := ⟨RdT.below hBoth.1 hb5, RdT.below hBoth.2 hb5⟩
  have B5 := bel_step B3 hb5
  clear hb5 B3 B2 B1
  go_wp2_with fail
  go_loopw [7] (fun i wr => ∃ (k : Nat) (s : RS), k ≤ m ∧ i = .int .i64 k ∧ Both wr g g2 s ∧ Below w.heap.size w wr) (fun i _ => m - (intOf i).toNat)
  case atStart => exact ⟨0, _, Nat.zero_le _, rfl, hBoth, B5⟩
  case round =>
    clear hBoth B5
    obtain ⟨k, s, hk, rfl, hBo, hbw⟩ := hrel
    by_cases hlt : k < m
    · obtain ⟨z, b, off, rfl, hz, hb, hc⟩ := (hB.below hbw).at hlt
      by_cases z1 : z = 1
      · subst z1
        have Hr := Lib.hid (fun W (h : Rd W g s) => readNum_any g s W h)
        have Hx := Lib.hid (fun W (h : RdT 47 W g2 s) => refNum_any g2 s W h)
        generalize s.num = q at Hr Hx
        obtain ⟨v1, s2⟩ := q
        simp only at Hr Hx
        go_wp2_with fail
        refine (Hr.out wr hBo.1).mono ?_
        rintro e wv1 ⟨rfl, hR1, hg1⟩
        go_wp2_with fail
        refine (Hx.out wv1 (hBo.mid hg1)).mono ?_
        rintro e v2 ⟨rfl, hX1, hg3⟩
        have hBo2 : Both v2 g g2 s2 := hBo.step hR1 hg1 (fun _ => ⟨hX1, hg3⟩)
        have V2 : Below w.heap.size w v2 := below_only (below_only hbw hg1 hgw hbw.size) hg3 hg2w (Nat.le_trans hbw.size hg1.size)
        go_wp2_with fail
        refine wp_region_seq (by kernel_rfl) [(0, true), (1, true), (2, true), (3, true), (5, true), (4, false), (6, false), (7, true), (8, true), (9, true), (10, true), (12, true), (13, true), (14, true), (15, true), (11, false), (16, true), (17, true)] (by kernel_rfl) rfl (by kernel_rfl) ?_
        intro v3 hv3
        have hBo3 : Both v3 g g2 s2 := ⟨RdT.below hBo2.1 hv3, RdT.below hBo2.2 hv3⟩
        have kc := fun W (hb : Below v3.heap.size v3 W) => refBad_cell hBo3.2 hb
        iterate 5 (refine wpSeq_take (o := ⟨_, _, _, _, _, _⟩) (v := ?_) rfl rfl ?_ ?_; rotate_left; (focus (intro W hW; go_simp; first | done | with_reducible rfl)); simp only [Act.put, List.setIfInBounds_toArray, List.set_cons_zero, List.set_cons_succ])
        refine wpSeq_exec (o := ⟨_, _, _, _, _, _⟩) rfl rfl (fun K hK => ?_)
        go_simp
        refine (left_any g s2 v3 hBo3.1).mono ?_
        rintro e v4 ⟨rfl, rfl⟩
        go_wp2_with fail
        refine hK _ _ (Below.refl _ _) ?_
        clear hK K
        refine wpSeq_exec (o := ⟨_, _, _, _, _, _⟩) rfl rfl (fun K hK => ?_)
        go_simp
        refine (refLeft_any g2 s2 v3 hBo3.2).mono ?_
        rintro e v4 ⟨rfl, rfl⟩
        go_wp2_with fail
        refine hK _ _ (Below.refl _ _) ?_
        clear hK K
        iterate 8 (refine wpSeq_take (o := ⟨_, _, _, _, _, _⟩) (v := ?_) rfl rfl ?_ ?_; rotate_left; (focus (intro W hW; go_simp; first | done | with_reducible rfl)); simp only [Act.put, List.setIfInBounds_toArray, List.set_cons_zero, List.set_cons_succ])
        refine wpSeq_exec (o := ⟨_, _, _, _, _, _⟩) rfl rfl (fun K hK => ?_)
        go_simp
        refine (bad_any g s2 v3 hBo3.1).mono ?_
        rintro e v4 ⟨rfl, rfl⟩
        go_wp2_with fail
        refine hK _ _ (Below.refl _ _) ?_
        clear hK K
        iterate 2 (refine wpSeq_take (o := ⟨_, _, _, _, _, _⟩) (v := ?_) rfl rfl ?_ ?_; rotate_left; (focus (intro W hW; go_simp; first | done | with_reducible rfl)); simp only [Act.put, List.setIfInBounds_toArray, List.set_cons_zero, List.set_cons_succ])
        refine wpSeq_nil ?_
        go_wp2_with fail
        go_roundw
        case rel => exact ⟨k + 1, s2, by omega, by go_num, hBo3, bel_step V2 hv3⟩
        case measure => simp [intOf]; omega
      by_cases z2 : z = 2
      · subst z2
        have Hr := Lib.hid (fun W (h : Rd W g s) => readText_any g s W h)
        have Hx := Lib.hid (fun W (h : RdT 47 W g2 s) => refText_any g2 s W h)
        generalize s.text = q at Hr Hx
        obtain ⟨v1, s2⟩ := q
        simp only at Hr Hx
        go_wp2_with fail
        refine (Hr.out wr hBo.1).mono ?_
        rintro e wv1 ⟨rfl, hR1, hg1⟩
        go_wp2_with fail
        refine (Hx.out wv1 (hBo.mid hg1)).mono ?_
        rintro e v2 ⟨rfl, hX1, hg3⟩
        have hBo2 : Both v2 g g2 s2 := hBo.step hR1 hg1 (fun _ => ⟨hX1, hg3⟩)
        have V2 : Below w.heap.size w v2 := below_only (below_only hbw hg1 hgw hbw.size) hg3 hg2w (Nat.le_trans hbw.size hg1.size)
        go_wp2_with fail
        refine wp_region_seq (by kernel_rfl) [(0, true), (1, true), (2, true), (3, true), (5, true), (4, false), (6, false), (7, true), (8, true), (9, true), (10, true), (12, true), (13, true), (14, true), (15, true), (11, false), (16, true), (17, true)] (by kernel_rfl) rfl (by kernel_rfl) ?_
        intro v3 hv3
        have hBo3 : Both v3 g g2 s2 := ⟨RdT.below hBo2.1 hv3, RdT.below hBo2.2 hv3⟩
        have kc := fun W (hb : Below v3.heap.size v3 W) => refBad_cell hBo3.2 hb
        iterate 5 (refine wpSeq_take (o := ⟨_, _, _, _, _, _⟩) (v := ?_) rfl rfl ?_ ?_; rotate_left; (focus (intro W hW; go_simp; first | done | with_reducible rfl)); simp only [Act.put, List.setIfInBounds_toArray, List.set_cons_zero, List.set_cons_succ])
        refine wpSeq_exec (o := ⟨_, _, _, _, _, _⟩) rfl rfl (fun K hK => ?_)
        go_simp
        refine (left_any g s2 v3 hBo3.1).mono ?_
        rintro e v4 ⟨rfl, rfl⟩
        go_wp2_with fail
        refine hK _ _ (Below.refl _ _) ?_
        clear hK K
        refine wpSeq_exec (o := ⟨_, _, _, _, _, _⟩) rfl rfl (fun K hK => ?_)
        go_simp
        refine (refLeft_any g2 s2 v3 hBo3.2).mono ?_
        rintro e v4 ⟨rfl, rfl⟩
        go_wp2_with fail
        refine hK _ _ (Below.refl _ _) ?_
        clear hK K
        iterate 8 (refine wpSeq_take (o := ⟨_, _, _, _, _, _⟩) (v := ?_) rfl rfl ?_ ?_; rotate_left; (focus (intro W hW; go_simp; first | done | with_reducible rfl)); simp only [Act.put, List.setIfInBounds_toArray, List.set_cons_zero, List.set_cons_succ])
        refine wpSeq_exec (o := ⟨_, _, _, _, _, _⟩) rfl rfl (fun K hK => ?_)
        go_simp
        refine (bad_any g s2 v3 hBo3.1).mono ?_
        rintro e v4 ⟨rfl, rfl⟩
        go_wp2_with fail
        refine hK _ _ (Below.refl _ _) ?_
        clear hK K
        iterate 2 (refine wpSeq_take (o := ⟨_, _, _, _, _, _⟩) (v := ?_) rfl rfl ?_ ?_; rotate_left; (focus (intro W hW; go_simp; first | done | with_reducible rfl)); simp only [Act.put, List.setIfInBounds_toArray, List.set_cons_zero, List.set_cons_succ])
        refine wpSeq_nil ?_
        go_wp2_with fail
        go_roundw
        case rel => exact ⟨k + 1, s2, by omega, by go_num, hBo3, bel_step V2 hv3⟩
        case measure => simp [intOf]; omega
      by_cases z3 : z = 3
      · subst z3
        have Hr := Lib.hid (fun W (h : Rd W g s) => readByte_any g s W h)
        have Hx := Lib.hid (fun W (h : RdT 47 W g2 s) => refByte_any g2 s W h)
        generalize s.byte = q at Hr Hx
        obtain ⟨v1, s2⟩ := q
        simp only at Hr Hx
        go_wp2_with fail
        refine (Hr.out wr hBo.1).mono ?_
        rintro e wv1 ⟨rfl, hR1, hg1⟩
        go_wp2_with fail
        refine (Hx.out wv1 (hBo.mid hg1)).mono ?_
        rintro e v2 ⟨rfl, hX1, hg3⟩
        have hBo2 : Both v2 g g2 s2 := hBo.step hR1 hg1 (fun _ => ⟨hX1, hg3⟩)
        have V2 : Below w.heap.size w v2 := below_only (below_only hbw hg1 hgw hbw.size) hg3 hg2w (Nat.le_trans hbw.size hg1.size)
        go_wp2_with fail
        refine wp_region_seq (by kernel_rfl) [(0, true), (1, true), (2, true), (3, true), (5, true), (4, false), (6, false), (7, true), (8, true), (9, true), (10, true), (12, true), (13, true), (14, true), (15, true), (11, false), (16, true), (17, true)] (by kernel_rfl) rfl (by kernel_rfl) ?_
        intro v3 hv3
        have hBo3 : Both v3 g g2 s2 := ⟨RdT.below hBo2.1 hv3, RdT.below hBo2.2 hv3⟩
        have kc := fun W (hb : Below v3.heap.size v3 W) => refBad_cell hBo3.2 hb
        iterate 5 (refine wpSeq_take (o := ⟨_, _, _, _, _, _⟩) (v := ?_) rfl rfl ?_ ?_; rotate_left; (focus (intro W hW; go_simp; first | done | with_reducible rfl)); simp only [Act.put, List.setIfInBounds_toArray, List.set_cons_zero, List.set_cons_succ])
        refine wpSeq_exec (o := ⟨_, _, _, _, _, _⟩) rfl rfl (fun K hK => ?_)
        go_simp
        refine (left_any g s2 v3 hBo3.1).mono ?_
        rintro e v4 ⟨rfl, rfl⟩
        go_wp2_with fail
        refine hK _ _ (Below.refl _ _) ?_
        clear hK K
        refine wpSeq_exec (o := ⟨_, _, _, _, _, _⟩) rfl rfl (fun K hK => ?_)
        go_simp
        refine (refLeft_any g2 s2 v3 hBo3.2).mono ?_
        rintro e v4 ⟨rfl, rfl⟩
        go_wp2_with fail
        refine hK _ _ (Below.refl _ _) ?_
        clear hK K
        iterate 8 (refine wpSeq_take (o := ⟨_, _, _, _, _, _⟩) (v := ?_) rfl rfl ?_ ?_; rotate_left; (focus (intro W hW; go_simp; first | done | with_reducible rfl)); simp only [Act.put, List.setIfInBounds_toArray, List.set_cons_zero, List.set_cons_succ])
        refine wpSeq_exec (o := ⟨_, _, _, _, _, _⟩) rfl rfl (fun K hK => ?_)
        go_simp
        refine (bad_any g s2 v3 hBo3.1).mono ?_
        rintro e v4 ⟨rfl, rfl⟩
        go_wp2_with fail
        refine hK _ _ (Below.refl _ _) ?_
        clear hK K
        iterate 2 (refine wpSeq_take (o := ⟨_, _, _, _, _, _⟩) (v := ?_) rfl rfl ?_ ?_; rotate_left; (focus (intro W hW; go_simp; first | done | with_reducible rfl)); simp only [Act.put, List.setIfInBounds_toArray, List.set_cons_zero, List.set_cons_succ])
        refine wpSeq_nil ?_
        go_wp2_with fail
        go_roundw
        case rel => exact ⟨k + 1, s2, by omega, by go_num, hBo3, bel_step V2 hv3⟩
        case measure => simp [intOf]; omega
      by_cases z4 : z = 4
      · subst z4
        have Hr := Lib.hid (fun W (h : Rd W g s) => readWord_any g s W h)
        have Hx := Lib.hid (fun W (h : RdT 47 W g2 s) => refReadWord_any g2 s W h)
        generalize s.word = q at Hr Hx
        obtain ⟨v1, s2⟩ := q
        simp only at Hr Hx
        go_wp2_with fail
        refine (Hr.out wr hBo.1).mono ?_
        rintro e wv1 ⟨rfl, hR1, hg1⟩
        go_wp2_with fail
        refine (Hx.out wv1 (hBo.mid hg1)).mono ?_
        rintro e v2 ⟨rfl, hX1, hg3⟩
        have hBo2 : Both v2 g g2 s2 := hBo.step hR1 hg1 (fun _ => ⟨hX1, hg3⟩)
        have V2 : Below w.heap.size w v2 := below_only (below_only hbw hg1 hgw hbw.size) hg3 hg2w (Nat.le_trans hbw.size hg1.size)
        go_wp2_with fail
        refine wp_region_seq (by kernel_rfl) [(0, true), (1, true), (2, true), (3, true), (5, true), (4, false), (6, false), (7, true), (8, true), (9, true), (10, true), (12, true), (13, true), (14, true), (15, true), (11, false), (16, true), (17, true)] (by kernel_rfl) rfl (by kernel_rfl) ?_
        intro v3 hv3
        have hBo3 : Both v3 g g2 s2 := ⟨RdT.below hBo2.1 hv3, RdT.below hBo2.2 hv3⟩
        have kc := fun W (hb : Below v3.heap.size v3 W) => refBad_cell hBo3.2 hb
        iterate 5 (refine wpSeq_take (o := ⟨_, _, _, _, _, _⟩) (v := ?_) rfl rfl ?_ ?_; rotate_left; (focus (intro W hW; go_simp; first | done | with_reducible rfl)); simp only [Act.put, List.setIfInBounds_toArray, List.set_cons_zero, List.set_cons_succ])
        refine wpSeq_exec (o := ⟨_, _, _, _, _, _⟩) rfl rfl (fun K hK => ?_)
        go_simp
        refine (left_any g s2 v3 hBo3.1).mono ?_
        rintro e v4 ⟨rfl, rfl⟩
        go_wp2_with fail
        refine hK _ _ (Below.refl _ _) ?_
        clear hK K
        refine wpSeq_exec (o := ⟨_, _, _, _, _, _⟩) rfl rfl (fun K hK => ?_)
        go_simp
        refine (refLeft_any g2 s2 v3 hBo3.2).mono ?_
        rintro e v4 ⟨rfl, rfl⟩
        go_wp2_with fail
        refine hK _ _ (Below.refl _ _) ?_
        clear hK K
        iterate 8 (refine wpSeq_take (o := ⟨_, _, _, _, _, _⟩) (v := ?_) rfl rfl ?_ ?_; rotate_left; (focus (intro W hW; go_simp; first | done | with_reducible rfl)); simp only [Act.put, List.setIfInBounds_toArray, List.set_cons_zero, List.set_cons_succ])
        refine wpSeq_exec (o := ⟨_, _, _, _, _, _⟩) rfl rfl (fun K hK => ?_)
        go_simp
        refine (bad_any g s2 v3 hBo3.1).mono ?_
        rintro e v4 ⟨rfl, rfl⟩
        go_wp2_with fail
        refine hK _ _ (Below.refl _ _) ?_
        clear hK K
        iterate 2 (refine wpSeq_take (o := ⟨_, _, _, _, _, _⟩) (v := ?_) rfl rfl ?_ ?_; rotate_left; (focus (intro W hW; go_simp; first | done | with_reducible rfl)); simp only [Act.put, List.setIfInBounds_toArray, List.set_cons_zero, List.set_cons_succ])
        refine wpSeq_nil ?_
        go_wp2_with fail
        go_roundw
        case rel => exact ⟨k + 1, s2, by omega, by go_num, hBo3, bel_step V2 hv3⟩
        case measure => simp [intOf]; omega
      · have n1 : (z == 1) = false := by rw [beq_eq_false_iff_ne]; omega
        have n2 : (z == 2) = false := by rw [beq_eq_false_iff_ne]; omega
        have n3 : (z == 3) = false := by rw [beq_eq_false_iff_ne]; omega
        have n4 : (z == 4) = false := by rw [beq_eq_false_iff_ne]; omega
        clear z1 z2 z3 z4
        obtain ⟨v2, hv2⟩ : ∃ v2, v2 = wr := ⟨_, rfl⟩
        obtain ⟨s2, hs2⟩ : ∃ s2, s2 = s := ⟨_, rfl⟩
        have hBo2 : Both v2 g g2 s2 := by rw [hv2, hs2]; exact hBo
        have V2 : Below w.heap.size w v2 := by rw [hv2]; exact hbw
        go_wp2_with fail
        rw [← hv2]
        refine wp_region_seq (by kernel_rfl) [(0, true), (1, true), (2, true), (3, true), (5, true), (4, false), (6, false), (7, true), (8, true), (9, true), (10, true), (12, true), (13, true), (14, true), (15, true), (11, false), (16, true), (17, true)] (by kernel_rfl) rfl (by kernel_rfl) ?_
        intro v3 hv3
        have hBo3 : Both v3 g g2 s2 := ⟨RdT.below hBo2.1 hv3, RdT.below hBo2.2 hv3⟩
        have kc := fun W (hb : Below v3.heap.size v3 W) => refBad_cell hBo3.2 hb
        iterate 5 (refine wpSeq_take (o := ⟨_, _, _, _, _, _⟩) (v := ?_) rfl rfl ?_ ?_; rotate_left; (focus (intro W hW; go_simp; first | done | with_reducible rfl)); simp only [Act.put, List.setIfInBounds_toArray, List.set_cons_zero, List.set_cons_succ])
        refine wpSeq_exec (o := ⟨_, _, _, _, _, _⟩) rfl rfl (fun K hK => ?_)
        go_simp
        refine (left_any g s2 v3 hBo3.1).mono ?_
        rintro e v4 ⟨rfl, rfl⟩
        go_wp2_with fail
        refine hK _ _ (Below.refl _ _) ?_
        clear hK K
        refine wpSeq_exec (o := ⟨_, _, _, _, _, _⟩) rfl rfl (fun K hK => ?_)
        go_simp
        refine (refLeft_any g2 s2 v3 hBo3.2).mono ?_
        rintro e v4 ⟨rfl, rfl⟩
        go_wp2_with fail
        refine hK _ _ (Below.refl _ _) ?_
        clear hK K
        iterate 8 (refine wpSeq_take (o := ⟨_, _, _, _, _, _⟩) (v := ?_) rfl rfl ?_ ?_; rotate_left; (focus (intro W hW; go_simp; first | done | with_reducible rfl)); simp only [Act.put, List.setIfInBounds_toArray, List.set_cons_zero, List.set_cons_succ])
        refine wpSeq_exec (o := ⟨_, _, _, _, _, _⟩) rfl rfl (fun K hK => ?_)
        go_simp
        refine (bad_any g s2 v3 hBo3.1).mono ?_
        rintro e v4 ⟨rfl, rfl⟩
        go_wp2_with fail
        refine hK _ _ (Below.refl _ _) ?_
        clear hK K
        iterate 2 (refine wpSeq_take (o := ⟨_, _, _, _, _, _⟩) (v := ?_) rfl rfl ?_ ?_; rotate_left; (focus (intro W hW; go_simp; first | done | with_reducible rfl)); simp only [Act.put, List.setIfInBounds_toArray, List.set_cons_zero, List.set_cons_succ])
        refine wpSeq_nil ?_
        go_wp2_with fail
        go_roundw
        case rel => exact ⟨k + 1, s2, by omega, by go_num, hBo3, bel_step V2 hv3⟩
        case measure => simp [intOf]; omega
    · go_wp2_with fail
      refine (readNum_nil wr).mono ?_
      rintro e v1 ⟨rfl, rfl⟩
      go_wp2_with fail
      refine (readText_nil wr).mono ?_
      rintro e v1 ⟨rfl, rfl⟩
      go_wp2_with fail
      refine (readByte_nil wr).mono ?_
      rintro e v1 ⟨rfl, rfl⟩
      go_wp2_with fail
      refine (readWord_nil wr).mono ?_
      rintro e v1 ⟨rfl, rfl⟩
      go_wp2_with fail
      refine (left_nil wr).mono ?_
      rintro e v1 ⟨rfl, rfl⟩
      go_wp2_with fail
      refine (bad_nil wr).mono ?_
      rintro e v1 ⟨rfl, rfl⟩
      go_wp2_with fail
      go_ret
      exact ⟨rfl, hbw⟩
end Go.Proofs.Ytgklbejnbplbgaa
