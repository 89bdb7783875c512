/-
  Days, Check, days, Moment; the reference's Check (printed by gen_dty.py).
-/
import Derived.Test.YtjmmgekildlckaaDtX
import Derived.BigQuiet
namespace Go.Proofs.Ytjmmgekildlckaa
open Go.RowKit Go.Nst
set_option maxRecDepth 100000
set_option linter.unusedVariables false
set_option linter.unusedSimpArgs false

set_option maxHeartbeats 1000000 in
theorem days4_any (y m : Int) (w : World) (hm0 : -9223372036854775808 ≤ m) (hm1 : m ≤ 9223372036854775807) : Calls Try.prog 76 #[.int .i64 y, .int .i64 m] w fun e w' => e = .returned (.int .i64 (daysM y m)) ∧ w = w' := by
  obtain ⟨r, hr⟩ : ∃ r, daysM y m = r := ⟨_, rfl⟩
  rw [hr]
  unfold daysM at hr
  by_cases a1 : y < 1
  · have HR : Hid (r = 0) := Lib.hid (by rw [← hr, if_pos (by omega)])
    have d1 : decide (y < 1) = true := by simpa using a1
    clear hr a1
    go_enter Try.func76, Try.ntmps76
    go_wp2_with fail
    go_ret
    rw [HR.out]
    exact ⟨rfl, rfl⟩
  have d1 : decide (y < 1) = false := by simpa using a1
  by_cases a2 : 9999 < y
  · have HR : Hid (r = 0) := Lib.hid (by rw [← hr, if_pos (by omega)])
    have d2 : decide (9999 < y) = true := by simpa using a2
    clear hr a1 a2
    go_enter Try.func76, Try.ntmps76
    go_wp2_with fail
    go_ret
    rw [HR.out]
    exact ⟨rfl, rfl⟩
  have d2 : decide (9999 < y) = false := by simpa using a2
  by_cases a3 : m < 1
  · have HR : Hid (r = 0) := Lib.hid (by rw [← hr, if_pos (by omega)])
    have d3 : decide (m < 1) = true := by simpa using a3
    clear hr a1 a2 a3
    go_enter Try.func76, Try.ntmps76
    go_wp2_with fail
    go_ret
    rw [HR.out]
    exact ⟨rfl, rfl⟩
  have d3 : decide (m < 1) = false := by simpa using a3
  by_cases a4 : 12 < m
  · have HR : Hid (r = 0) := Lib.hid (by rw [← hr, if_pos (by omega)])
    have d4 : decide (12 < m) = true := by simpa using a4
    clear hr a1 a2 a3 a4
    go_enter Try.func76, Try.ntmps76
    go_wp2_with fail
    go_ret
    rw [HR.out]
    exact ⟨rfl, rfl⟩
  have d4 : decide (12 < m) = false := by simpa using a4
  rw [if_neg (by omega)] at hr
  have HL := Lib.hid (fun W => leap4_any y W (by omega) (by omega))
  by_cases a5 : m = 2
  · subst a5
    rw [if_pos rfl] at hr
    cases hl : leapB y with
    | true =>
      rw [hl, if_pos rfl] at hr
      rw [hl] at HL
      have HR := Lib.hid hr
      clear hr hl a1 a2 a3 a4
      go_enter Try.func76, Try.ntmps76
      go_wp2_with fail
      (with_reducible refine (HL.out _).mono ?_)
      rintro e w1 ⟨rfl, rfl⟩
      go_wp2_with fail
      go_ret
      rw [← HR.out]
      exact ⟨rfl, rfl⟩
    | false =>
      rw [hl, if_neg (by decide)] at hr
      rw [hl] at HL
      have HR := Lib.hid hr
      clear hr hl a1 a2 a3 a4
      go_enter Try.func76, Try.ntmps76
      go_wp2_with fail
      (with_reducible refine (HL.out _).mono ?_)
      rintro e w1 ⟨rfl, rfl⟩
      go_wp2_with fail
      go_ret
      rw [← HR.out]
      exact ⟨rfl, rfl⟩
  · have d5 : (m == 2) = false := by simpa using a5
    rw [if_neg a5] at hr
    have HR := Lib.hid hr
    rcases (by omega : m = 1 ∨ m = 3 ∨ m = 4 ∨ m = 5 ∨ m = 6 ∨ m = 7 ∨ m = 8 ∨ m = 9 ∨ m = 10 ∨ m = 11 ∨ m = 12) with rfl | rfl | rfl | rfl | rfl | rfl | rfl | rfl | rfl | rfl | rfl
    all_goals
      clear hr a1 a2 a3 a4 a5 d3 d4 d5
      go_enter Try.func76, Try.ntmps76
      go_wp2_with fail
      go_ret
      rw [← HR.out]
      exact ⟨rfl, rfl⟩

set_option maxHeartbeats 4000000 in
theorem check4_any (y m d h_ mi s : Int) (w : World) (hm0 : -9223372036854775808 ≤ m) (hm1 : m ≤ 9223372036854775807) : Calls Try.prog 72 #[.agg #[.int .i64 y, .int .i64 m, .int .i64 d, .int .i64 h_, .int .i64 mi, .int .i64 s]] w fun e w' => e = .returned (.int .i64 (if Dt.ok ⟨y, m, d, h_, mi, s⟩ then 0 else 40)) ∧ Below w.heap.size w w' := by
  have HDY := Lib.hid (fun W => days4_any y m W hm0 hm1)
  have HK : Hid (Dt.ok ⟨y, m, d, h_, mi, s⟩ = ((decide (1 ≤ d) && decide (d ≤ daysM y m)) && (decide (0 ≤ h_) && decide (h_ ≤ 23)) && (decide (0 ≤ mi) && decide (mi ≤ 59)) && (decide (0 ≤ s) && decide (s ≤ 59)))) := Lib.hid (by unfold Dt.ok; simp only [Bool.and_assoc])
  generalize daysM y m = D at *
  have HW1 := Lib.hid (fun W => within_any d 1 D W)
  have HW2 := Lib.hid (fun W => within_any h_ 0 23 W)
  have HW3 := Lib.hid (fun W => within_any mi 0 59 W)
  have HW4 := Lib.hid (fun W => within_any s 0 59 W)
  generalize (decide (1 ≤ d) && decide (d ≤ D)) = t1 at HK HW1
  generalize (decide (0 ≤ h_) && decide (h_ ≤ 23)) = t2 at HK HW2
  generalize (decide (0 ≤ mi) && decide (mi ≤ 59)) = t3 at HK HW3
  generalize (decide (0 ≤ s) && decide (s ≤ 59)) = t4 at HK HW4
  have B0 := bel_alloc (Below.refl w.heap.size w) (.cells #[.int .i64 y, .int .i64 m, .int .i64 d, .int .i64 h_, .int .i64 mi, .int .i64 s] 98)
  cases t1 with
  | false =>
    rw [HK.out]
    go_enter Try.func72, Try.ntmps72
    go_wp2_with fail
    go_quiet (first | (go_at_call 76; exact quiet_same (HDY.out _)) | (go_at_call 63; first | with_reducible exact quiet_same (HW1.out _)))
    go_wp2_with fail
    go_ret
    exact ⟨rfl, Nst.below_drewN B0 _⟩
  | true =>
    cases t2 with
    | false =>
      rw [HK.out]
      go_enter Try.func72, Try.ntmps72
      go_wp2_with fail
      go_quiet (first | (go_at_call 76; exact quiet_same (HDY.out _)) | (go_at_call 63; first | with_reducible exact quiet_same (HW1.out _) | with_reducible exact quiet_same (HW2.out _)))
      go_wp2_with fail
      go_ret
      exact ⟨rfl, Nst.below_drewN B0 _⟩
    | true =>
      cases t3 with
      | false =>
        rw [HK.out]
        go_enter Try.func72, Try.ntmps72
        go_wp2_with fail
        go_quiet (first | (go_at_call 76; exact quiet_same (HDY.out _)) | (go_at_call 63; first | with_reducible exact quiet_same (HW1.out _) | with_reducible exact quiet_same (HW2.out _) | with_reducible exact quiet_same (HW3.out _)))
        go_wp2_with fail
        go_ret
        exact ⟨rfl, Nst.below_drewN B0 _⟩
      | true =>
        cases t4 with
        | false =>
          rw [HK.out]
          go_enter Try.func72, Try.ntmps72
          go_wp2_with fail
          go_quiet (first | (go_at_call 76; exact quiet_same (HDY.out _)) | (go_at_call 63; first | with_reducible exact quiet_same (HW1.out _) | with_reducible exact quiet_same (HW2.out _) | with_reducible exact quiet_same (HW3.out _) | with_reducible exact quiet_same (HW4.out _)))
          go_wp2_with fail
          go_ret
          exact ⟨rfl, Nst.below_drewN B0 _⟩
        | true =>
          rw [HK.out]
          go_enter Try.func72, Try.ntmps72
          go_wp2_with fail
          go_quiet (first | (go_at_call 76; exact quiet_same (HDY.out _)) | (go_at_call 63; first | with_reducible exact quiet_same (HW1.out _) | with_reducible exact quiet_same (HW2.out _) | with_reducible exact quiet_same (HW3.out _) | with_reducible exact quiet_same (HW4.out _)))
          go_wp2_with fail
          go_ret
          exact ⟨rfl, Nst.below_drewN B0 _⟩
set_option maxHeartbeats 2000000 in
theorem dayn_any (y m d h_ mi s : Int) (w : World) (hy0 : 1 ≤ y) (hy1 : y ≤ 9999) (hm0 : 1 ≤ m) (hm1 : m ≤ 12) (hd0 : 1 ≤ d) (hd1 : d ≤ 31) : Calls Try.prog 73 #[.agg #[.int .i64 y, .int .i64 m, .int .i64 d, .int .i64 h_, .int .i64 mi, .int .i64 s]] w fun e w' => e = .returned (.int .i64 (daysC y m d)) ∧ Below w.heap.size w w' := by
  have HR : Hid (daysC y m d = if m - 3 < 0 then 146097 * ((y - 1) / 400) + 365 * ((y - 1) % 400) + (y - 1) % 400 / 4 - (y - 1) % 400 / 100 + (153 * (m + 9) + 2) / 5 + d - 1 - 719468 else 146097 * (y / 400) + 365 * (y % 400) + y % 400 / 4 - y % 400 / 100 + (153 * (m - 3) + 2) / 5 + d - 1 - 719468) := rfl
  have B0 := bel_alloc (Below.refl w.heap.size w) (.cells #[.int .i64 y, .int .i64 m, .int .i64 d, .int .i64 h_, .int .i64 mi, .int .i64 s] 98)
  by_cases hc : m - 3 < 0
  · have hr2 := HR.out.trans (if_pos hc)
    rw [show m + 9 = m - 3 + 12 by omega] at hr2
    have HR2 := Lib.hid hr2
    clear hr2
    have d1 : decide (m - 3 < 0) = true := by simpa using hc
    clear HR
    go_enter Try.func73, Try.ntmps73
    go_wp2_with fail
    go_quiet (fail)
    go_wp2_with fail
    go_ret
    rw [HR2.out]
    exact ⟨rfl, Nst.below_drewN B0 _⟩
  · have HR2 := Lib.hid (HR.out.trans (if_neg hc))
    have d1 : decide (m - 3 < 0) = false := by simpa using hc
    clear HR
    go_enter Try.func73, Try.ntmps73
    go_wp2_with fail
    go_quiet (fail)
    go_wp2_with fail
    go_ret
    rw [HR2.out]
    exact ⟨rfl, Nst.below_drewN B0 _⟩
set_option maxHeartbeats 2000000 in
theorem moment_no (y m d h_ mi s : Int) (w : World) (hm0 : -9223372036854775808 ≤ m) (hm1 : m ≤ 9223372036854775807) (hok : Dt.ok ⟨y, m, d, h_, mi, s⟩ = false) : Calls Try.prog 64 #[.agg #[.int .i64 y, .int .i64 m, .int .i64 d, .int .i64 h_, .int .i64 mi, .int .i64 s]] w fun e w' => e = .returned (.tuple #[.int .i64 0, .int .i64 40]) ∧ Below w.heap.size w w' := by
  have HC := Lib.hid (fun W => check4_any y m d h_ mi s W hm0 hm1)
  rw [hok] at HC
  have B0 := bel_alloc (Below.refl w.heap.size w) (.cells #[.int .i64 y, .int .i64 m, .int .i64 d, .int .i64 h_, .int .i64 mi, .int .i64 s] 98)
  clear hok
  simp only [Bool.false_eq_true, if_false] at HC
  go_enter Try.func64, Try.ntmps64
  go_wp2_with fail
  (with_reducible refine (HC.out _).mono ?_)
  rintro e w1 ⟨rfl, hb1⟩
  go_wp2_with fail
  go_ret2
  exact ⟨rfl, bel_step B0 hb1⟩
set_option maxHeartbeats 4000000 in
theorem moment_yes (y m d h_ mi s : Int) (w : World) (hok : Dt.ok ⟨y, m, d, h_, mi, s⟩ = true) : Calls Try.prog 64 #[.agg #[.int .i64 y, .int .i64 m, .int .i64 d, .int .i64 h_, .int .i64 mi, .int .i64 s]] w fun e w' => e = .returned (.tuple #[.int .i64 (Dt.mom ⟨y, m, d, h_, mi, s⟩), .int .i64 0]) ∧ Below w.heap.size w w' := by
  obtain ⟨hy0, hy1, hm0, hm1⟩ := ok_ym hok
  have hx := (ok_iff _).1 hok
  have hdp := days_pos hy0 hy1 hm0 hm1
  have hmb := mom_bounds hok
  rw [mayM_iff] at hmb
  simp only at hy0 hy1 hm0 hm1 hx hdp
  have HC := Lib.hid (fun W => check4_any y m d h_ mi s W (by omega) (by omega))
  have HD := Lib.hid (fun W => dayn_any y m d h_ mi s W (by omega) (by omega) (by omega) (by omega) (by omega) (by omega))
  rw [hok] at HC
  have HV : Hid (Dt.mom ⟨y, m, d, h_, mi, s⟩ = 86400 * daysC y m d + 3600 * h_ + 60 * mi + s) := rfl
  unfold Dt.mom at hmb
  simp only at hmb
  rw [HV.out]
  clear HV
  generalize daysC y m d = D at *
  have B0 := bel_alloc (Below.refl w.heap.size w) (.cells #[.int .i64 y, .int .i64 m, .int .i64 d, .int .i64 h_, .int .i64 mi, .int .i64 s] 98)
  have hv0 := Blk.new w 98 #[.int .i64 y, .int .i64 m, .int .i64 d, .int .i64 h_, .int .i64 mi, .int .i64 s]
  simp only [if_true] at HC
  clear hok hdp
  have k1 : IntKind.i64.wrap (86400 * D) = 86400 * D := IntWalk.i64_in _ (by omega)
  have k2 : IntKind.i64.wrap (3600 * h_) = 3600 * h_ := IntWalk.i64_in _ (by omega)
  have k3 : IntKind.i64.wrap (86400 * D + 3600 * h_) = 86400 * D + 3600 * h_ := IntWalk.i64_in _ (by omega)
  have k4 : IntKind.i64.wrap (60 * mi) = 60 * mi := IntWalk.i64_in _ (by omega)
  have k5 : IntKind.i64.wrap (86400 * D + 3600 * h_ + 60 * mi) = 86400 * D + 3600 * h_ + 60 * mi := IntWalk.i64_in _ (by omega)
  have k6 : IntKind.i64.wrap (86400 * D + 3600 * h_ + 60 * mi + s) = 86400 * D + 3600 * h_ + 60 * mi + s := IntWalk.i64_in _ (by omega)
  go_enter Try.func64, Try.ntmps64
  go_wp2_with fail
  (with_reducible refine (HC.out _).mono ?_)
  rintro e w1 ⟨rfl, hb1⟩
  have hv1 := hv0.below hb1 hv0.lt
  have B1 := bel_step B0 hb1
  clear hb1 hv0 B0
  go_wp2_with fail
  refine wp_region_seq (by kernel_rfl) [(0, true), (3, true), (4, true), (5, true), (7, true), (8, true), (9, true), (11, true), (12, true), (1, false), (2, true), (6, true), (10, true), (13, true), (14, true), (15, true)] (by kernel_rfl) rfl (by kernel_rfl) ?_
  intro w2 hb2
  have hv2 := hv1.below hb2 hv1.lt
  have B2 := bel_step B1 hb2
  have cv : ∀ W, Below w2.heap.size w2 W → Blk W w.heap.size 98 #[.int .i64 y, .int .i64 m, .int .i64 d, .int .i64 h_, .int .i64 mi, .int .i64 s] := fun W hW => hv2.below hW hv2.lt
  have c0 := fun W (hW : Below w2.heap.size w2 W) => (show W.cell? ⟨w.heap.size, 0, none⟩ = some (.int .i64 y) from ((cv W hW).cell 0).trans rfl)
  have c1 := fun W (hW : Below w2.heap.size w2 W) => (show W.cell? ⟨w.heap.size, 1, none⟩ = some (.int .i64 m) from ((cv W hW).cell 1).trans rfl)
  have c2 := fun W (hW : Below w2.heap.size w2 W) => (show W.cell? ⟨w.heap.size, 2, none⟩ = some (.int .i64 d) from ((cv W hW).cell 2).trans rfl)
  have c3 := fun W (hW : Below w2.heap.size w2 W) => (show W.cell? ⟨w.heap.size, 3, none⟩ = some (.int .i64 h_) from ((cv W hW).cell 3).trans rfl)
  have c4 := fun W (hW : Below w2.heap.size w2 W) => (show W.cell? ⟨w.heap.size, 4, none⟩ = some (.int .i64 mi) from ((cv W hW).cell 4).trans rfl)
  have c5 := fun W (hW : Below w2.heap.size w2 W) => (show W.cell? ⟨w.heap.size, 5, none⟩ = some (.int .i64 s) from ((cv W hW).cell 5).trans rfl)
  clear cv hv1 hv2 B1 hb2
  iterate 9 (refine wpSeq_take (o := ⟨_, _, _, _, _, _⟩) (v := ?_) rfl rfl ?_ ?_; rotate_left; (focus (intro W hW; go_simp; first | done | with_reducible rfl)); simp only [Act.put, List.setIfInBounds_toArray, List.set_cons_zero, List.set_cons_succ])
  clear c0 c1 c2 c3 c4 c5
  refine wpSeq_exec (o := ⟨_, _, _, _, _, _⟩) rfl rfl (fun K hK => ?_)
  go_simp
  (with_reducible refine (HD.out w2).mono ?_)
  rintro e w3 ⟨rfl, hb3⟩
  go_wp2_with fail
  refine hK _ _ hb3 ?_
  clear hK K
  iterate 6 (refine wpSeq_take (o := ⟨_, _, _, _, _, _⟩) (v := ?_) rfl rfl ?_ ?_; rotate_left; (focus (intro W hW; go_simp; first | done | with_reducible rfl)); simp only [Act.put, List.setIfInBounds_toArray, List.set_cons_zero, List.set_cons_succ])
  refine wpSeq_nil ?_
  go_wp2_with fail
  go_ret2
  exact ⟨rfl, bel_step B2 hb3⟩
end Go.Proofs.Ytjmmgekildlckaa
