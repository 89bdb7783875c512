/-
  Dates: the four laws walked.
-/
import Derived.Test.YtobidipkgaaecaaDoorDtL
import Derived.Test.YtobidipkgaaecaaDoorDtH
import Derived.Test.YtobidipkgaaecaaDoorDtG
import Derived.Test.YtobidipkgaaecaaDoorOrd
namespace Go.Proofs.YtobidipkgaaecaaDoor
open Go.RowKit Go.Nst
set_option maxRecDepth 100000
set_option linter.unusedVariables false
set_option linter.unusedSimpArgs false

def i64B (n : Int) : Prop := -9223372036854775808 ≤ n ∧ n ≤ 9223372036854775807
set_option maxHeartbeats 8000000 in
theorem dateMoments_walk (y m d h_ mi s : Int) (M : Int) (w : World) (hm0 : -9223372036854775808 ≤ m) (hm1 : m ≤ 9223372036854775807) (hM : MM M w) : Calls Tryd.prog 3 #[.agg #[.int .i64 y, .int .i64 m, .int .i64 d, .int .i64 h_, .int .i64 mi, .int .i64 s]] w (RetTrue w) := by
  have HL := Lib.hid (fun W h => lives04_any M W h)
  have HDY := Lib.hid (fun W => days4_any y m W hm0 hm1)
  have HRD := Lib.hid (fun W => refDays_any y m W)
  have HRC := Lib.hid (fun W => refCheck4_any y m d h_ mi s W)
  have HCK := Lib.hid (fun W => check4_any y m d h_ mi s W hm0 hm1)
  generalize daysM y m = dq at *
  have B0 := bel_alloc (Below.refl w.heap.size w) (.cells #[.int .i64 y, .int .i64 m, .int .i64 d, .int .i64 h_, .int .i64 mi, .int .i64 s] 23)
  have hD0 := Blk.new w 23 #[.int .i64 y, .int .i64 m, .int .i64 d, .int .i64 h_, .int .i64 mi, .int .i64 s]
  cases hok : Dt.ok ⟨y, m, d, h_, mi, s⟩ with
  | false =>
    have HMO := Lib.hid (fun W => moment_no y m d h_ mi s W hm0 hm1 hok)
    rw [hok] at HRC HCK
    simp only [Bool.false_eq_true, if_false] at HCK
    clear hok
    go_enter Tryd.func3, Tryd.ntmps3
    go_wp2_with fail
    (with_reducible refine (HMO.out _).mono ?_)
    rintro e w1 ⟨rfl, hb1⟩
    have B1 := bel_step B0 hb1
    have hD1 := hD0.below hb1 hD0.lt
    clear hb1 B0 hD0
    go_wp2_with fail
    refine wp_region_ordR (fun w W => Below w.heap.size w W) (fun _ => Below.refl _ _) (fun _ _ _ => bel_step) (by kernel_rfl) (.exec 0 (.take 1 (.take 2 (.take 3 (.take 4 (.take 5 (.take 6 (.take 7 (.take 8 (.take 9 (.take 10 (.take 11 (.take 12 (.take 13 (.take 14 (.nil)))))))))))))))) (by kernel_rfl) (by kernel_rfl) (by kernel_rfl) ?_
    refine wpOrd_exec (o := ⟨_, _, _, _, _, _⟩) rfl rfl (fun K hK => ?_)
    go_simp
    (with_reducible refine (HL.out _ (hM.keep B1.drew)).mono ?_)
    rintro e w2 ⟨rfl, hb2⟩
    have B2 := bel_step B1.drew hb2
    have hD2 := hD1.drew.below hb2 hD1.lt
    go_wp2_with fail
    refine hK _ _ hb2 ?_
    clear hK K hb2
    have c0 := fun W (hW : Below w2.heap.size w2 W) => (show W.cell? ⟨w.heap.size, 0, none⟩ = some (.int .i64 y) from ((hD2.below hW hD2.lt).cell 0).trans rfl)
    have c1 := fun W (hW : Below w2.heap.size w2 W) => (show W.cell? ⟨w.heap.size, 1, none⟩ = some (.int .i64 m) from ((hD2.below hW hD2.lt).cell 1).trans rfl)
    iterate 6 (refine wpOrd_take (o := ⟨_, _, _, _, _, _⟩) (v := ?_) rfl rfl ?_ ?_; rotate_left; (focus (intro W hW; go_simp; first | done | with_reducible rfl)); simp only [Act.put, List.setIfInBounds_toArray, List.set_cons_zero, List.set_cons_succ])
    (refine wpOrd_call (o := ⟨_, _, _, _, _, _⟩) rfl rfl (fun W hW => HDY.out W) ?_ ?_; (focus (intro W hW; go_simp; first | done | with_reducible rfl)); simp only [Act.put, List.setIfInBounds_toArray, List.set_cons_zero, List.set_cons_succ])
    iterate 4 (refine wpOrd_take (o := ⟨_, _, _, _, _, _⟩) (v := ?_) rfl rfl ?_ ?_; rotate_left; (focus (intro W hW; go_simp; first | done | with_reducible rfl)); simp only [Act.put, List.setIfInBounds_toArray, List.set_cons_zero, List.set_cons_succ])
    (refine wpOrd_call (o := ⟨_, _, _, _, _, _⟩) rfl rfl (fun W hW => HRD.out W) ?_ ?_; (focus (intro W hW; go_simp; first | done | with_reducible rfl)); simp only [Act.put, List.setIfInBounds_toArray, List.set_cons_zero, List.set_cons_succ])
    iterate 2 (refine wpOrd_take (o := ⟨_, _, _, _, _, _⟩) (v := ?_) rfl rfl ?_ ?_; rotate_left; (focus (intro W hW; go_simp; first | done | with_reducible rfl)); simp only [Act.put, List.setIfInBounds_toArray, List.set_cons_zero, List.set_cons_succ])
    clear c0 c1
    refine wpOrd_nil ?_
    have e0 := hD2.cell 0
    have e1 := hD2.cell 1
    have e2 := hD2.cell 2
    have e3 := hD2.cell 3
    have e4 := hD2.cell 4
    have e5 := hD2.cell 5
    simp at e0 e1 e2 e3 e4 e5
    go_wp2_with fail
    (with_reducible refine (HRC.out _).mono ?_)
    rintro e w3 ⟨rfl, hb3⟩
    have B3 := bel_step B2 hb3
    have hD3 := hD2.below hb3 hD2.lt
    clear e0 e1 e2 e3 e4 e5 hb3
    have e0 := hD3.cell 0
    have e1 := hD3.cell 1
    have e2 := hD3.cell 2
    have e3 := hD3.cell 3
    have e4 := hD3.cell 4
    have e5 := hD3.cell 5
    simp at e0 e1 e2 e3 e4 e5
    go_wp2_with fail
    (with_reducible refine (HCK.out _).mono ?_)
    rintro e w4 ⟨rfl, hb4⟩
    go_wp2_with fail
    go_ret
    exact ⟨rfl, bel_step B3 hb4⟩
  | true =>
    have HMO := Lib.hid (fun W => moment_yes y m d h_ mi s W hok)
    have HRM := Lib.hid (fun W => refMoment4 hok W)
    have HOF := Lib.hid (fun W => of_yes (Dt.mom ⟨y, m, d, h_, mi, s⟩) W (mom_bounds hok))
    rw [ofD_mom hok] at HOF
    simp only [Dt.val, Dt.cells] at HOF
    rw [hok] at HRC HCK
    simp only [if_true] at HCK
    clear hok
    generalize Dt.mom ⟨y, m, d, h_, mi, s⟩ = mo at *
    go_enter Tryd.func3, Tryd.ntmps3
    go_wp2_with fail
    (with_reducible refine (HMO.out _).mono ?_)
    rintro e w1 ⟨rfl, hb1⟩
    have B1 := bel_step B0 hb1
    have hD1 := hD0.below hb1 hD0.lt
    clear hb1 B0 hD0
    go_wp2_with fail
    refine wp_region_ordR (fun w W => Below w.heap.size w W) (fun _ => Below.refl _ _) (fun _ _ _ => bel_step) (by kernel_rfl) (.exec 0 (.take 1 (.take 2 (.take 3 (.take 4 (.take 5 (.take 6 (.take 7 (.take 8 (.take 9 (.take 10 (.take 11 (.take 12 (.take 13 (.take 14 (.nil)))))))))))))))) (by kernel_rfl) (by kernel_rfl) (by kernel_rfl) ?_
    refine wpOrd_exec (o := ⟨_, _, _, _, _, _⟩) rfl rfl (fun K hK => ?_)
    go_simp
    (with_reducible refine (HL.out _ (hM.keep B1.drew)).mono ?_)
    rintro e w2 ⟨rfl, hb2⟩
    have B2 := bel_step B1.drew hb2
    have hD2 := hD1.drew.below hb2 hD1.lt
    go_wp2_with fail
    refine hK _ _ hb2 ?_
    clear hK K hb2
    have c0 := fun W (hW : Below w2.heap.size w2 W) => (show W.cell? ⟨w.heap.size, 0, none⟩ = some (.int .i64 y) from ((hD2.below hW hD2.lt).cell 0).trans rfl)
    have c1 := fun W (hW : Below w2.heap.size w2 W) => (show W.cell? ⟨w.heap.size, 1, none⟩ = some (.int .i64 m) from ((hD2.below hW hD2.lt).cell 1).trans rfl)
    iterate 6 (refine wpOrd_take (o := ⟨_, _, _, _, _, _⟩) (v := ?_) rfl rfl ?_ ?_; rotate_left; (focus (intro W hW; go_simp; first | done | with_reducible rfl)); simp only [Act.put, List.setIfInBounds_toArray, List.set_cons_zero, List.set_cons_succ])
    (refine wpOrd_call (o := ⟨_, _, _, _, _, _⟩) rfl rfl (fun W hW => HDY.out W) ?_ ?_; (focus (intro W hW; go_simp; first | done | with_reducible rfl)); simp only [Act.put, List.setIfInBounds_toArray, List.set_cons_zero, List.set_cons_succ])
    iterate 4 (refine wpOrd_take (o := ⟨_, _, _, _, _, _⟩) (v := ?_) rfl rfl ?_ ?_; rotate_left; (focus (intro W hW; go_simp; first | done | with_reducible rfl)); simp only [Act.put, List.setIfInBounds_toArray, List.set_cons_zero, List.set_cons_succ])
    (refine wpOrd_call (o := ⟨_, _, _, _, _, _⟩) rfl rfl (fun W hW => HRD.out W) ?_ ?_; (focus (intro W hW; go_simp; first | done | with_reducible rfl)); simp only [Act.put, List.setIfInBounds_toArray, List.set_cons_zero, List.set_cons_succ])
    iterate 2 (refine wpOrd_take (o := ⟨_, _, _, _, _, _⟩) (v := ?_) rfl rfl ?_ ?_; rotate_left; (focus (intro W hW; go_simp; first | done | with_reducible rfl)); simp only [Act.put, List.setIfInBounds_toArray, List.set_cons_zero, List.set_cons_succ])
    clear c0 c1
    refine wpOrd_nil ?_
    have e0 := hD2.cell 0
    have e1 := hD2.cell 1
    have e2 := hD2.cell 2
    have e3 := hD2.cell 3
    have e4 := hD2.cell 4
    have e5 := hD2.cell 5
    simp at e0 e1 e2 e3 e4 e5
    go_wp2_with fail
    (with_reducible refine (HRC.out _).mono ?_)
    rintro e w3 ⟨rfl, hb3⟩
    have B3 := bel_step B2 hb3
    have hD3 := hD2.below hb3 hD2.lt
    clear e0 e1 e2 e3 e4 e5 hb3
    go_wp2_with fail
    (with_reducible refine (HOF.out _).mono ?_)
    rintro e w4 ⟨rfl, hb4⟩
    have B4 := bel_step B3 hb4
    have hD4 := hD3.below hb4 hD3.lt
    have B5 := bel_alloc B4 (.cells #[.int .i64 y, .int .i64 m, .int .i64 d, .int .i64 h_, .int .i64 mi, .int .i64 s] 23)
    have hD5 := hD4.alloc (.cells #[.int .i64 y, .int .i64 m, .int .i64 d, .int .i64 h_, .int .i64 mi, .int .i64 s] 23)
    have hX5 := Blk.new w4 23 #[.int .i64 y, .int .i64 m, .int .i64 d, .int .i64 h_, .int .i64 mi, .int .i64 s]
    clear hb4 B4 B3 hD3 hD4
    have e0 := hD5.cell 0
    have e1 := hD5.cell 1
    have e2 := hD5.cell 2
    have e3 := hD5.cell 3
    have e4 := hD5.cell 4
    have e5 := hD5.cell 5
    simp at e0 e1 e2 e3 e4 e5
    go_wp2_with fail
    (with_reducible refine (HCK.out _).mono ?_)
    rintro e w6 ⟨rfl, hb6⟩
    have B6 := bel_step B5 hb6
    have hD6 := hD5.below hb6 hD5.lt
    have hX6 := hX5.below hb6 hX5.lt
    clear e0 e1 e2 e3 e4 e5 hb6 hX5 hD5 B5
    have e0 := hD6.cell 0
    have e1 := hD6.cell 1
    have e2 := hD6.cell 2
    have e3 := hD6.cell 3
    have e4 := hD6.cell 4
    have e5 := hD6.cell 5
    simp at e0 e1 e2 e3 e4 e5
    go_wp2_with fail
    (with_reducible refine (HRM.out _).mono ?_)
    rintro e w7 ⟨rfl, hb7⟩
    have B7 := bel_step B6 hb7
    have hD7 := hD6.below hb7 hD6.lt
    have hX7 := hX6.below hb7 hX6.lt
    clear e0 e1 e2 e3 e4 e5 hb7 hX6 hD6 B6
    have e0 := hD7.cell 0
    have e1 := hD7.cell 1
    have e2 := hD7.cell 2
    have e3 := hD7.cell 3
    have e4 := hD7.cell 4
    have e5 := hD7.cell 5
    have x0 := hX7.cell 0
    have x1 := hX7.cell 1
    have x2 := hX7.cell 2
    have x3 := hX7.cell 3
    have x4 := hX7.cell 4
    have x5 := hX7.cell 5
    simp at e0 e1 e2 e3 e4 e5 x0 x1 x2 x3 x4 x5
    go_wp2_with fail
    go_ret
    exact ⟨rfl, B7⟩
theorem ofD_hms {n k : Int} (h1 : mayM n = true) (h2 : mayM (n + 86400 * k) = true) : (ofD (n + 86400 * k)).h = (ofD n).h ∧ (ofD (n + 86400 * k)).mi = (ofD n).mi ∧ (ofD (n + 86400 * k)).s = (ofD n).s := by
  have e : (n + 86400 * k + 62135596800) % 86400 = (n + 62135596800) % 86400 := by omega
  have hf : ∀ z, (ofD z).h = (z + 62135596800) % 86400 / 3600 ∧ (ofD z).mi = (z + 62135596800) % 86400 / 60 % 60 ∧ (ofD z).s = (z + 62135596800) % 86400 % 60 := by
    intro z
    unfold ofD
    split <;> exact ⟨rfl, rfl, rfl⟩
  rw [(hf _).1, (hf _).2.1, (hf _).2.2, (hf _).1, (hf _).2.1, (hf _).2.2, e]
  exact ⟨rfl, rfl, rfl⟩
theorem any_show {x : Dt} (h : x.ok = true) : anyC (showT x) = some x.mom := by
  unfold anyC
  rw [web_show h]
theorem showT_len (x : Dt) : (showT x).length = 20 := by
  unfold showT
  simp [digL_len]
set_option maxHeartbeats 8000000 in
theorem dateOfs_walk (n : Int) (M : Int) (w : World) (hM : MM M w) : Calls Tryd.prog 4 #[.int .i64 n] w (RetTrue w) := by
  have HL := Lib.hid (fun W h => lives04_any M W h)
  have HMY := Lib.hid (fun W => refMay4_any n W)
  cases hmay : mayM n with
  | false =>
    have HOF := Lib.hid (fun W => of_no n W hmay)
    simp only [Dt.val, Dt.cells, Dt.zero] at HOF
    have HSH := Lib.hid (fun W => show_no n W hmay)
    rw [hmay] at HMY
    clear hmay
    go_enter Tryd.func4, Tryd.ntmps4
    go_wp2_with fail
    (with_reducible refine (HOF.out _).mono ?_)
    rintro e w1 ⟨rfl, hb1⟩
    have B2 := bel_alloc hb1 (.cells #[.int .i64 0, .int .i64 0, .int .i64 0, .int .i64 0, .int .i64 0, .int .i64 0] 23)
    have hD2 := Blk.new w1 23 #[.int .i64 0, .int .i64 0, .int .i64 0, .int .i64 0, .int .i64 0, .int .i64 0]
    go_wp2_with fail
    (with_reducible refine (HSH.out _).mono ?_)
    rintro e w3 ⟨rfl, hb3⟩
    have B3 := bel_step B2 hb3
    have hD3 := hD2.below hb3 hD2.lt
    go_wp2_with fail
    (with_reducible refine (HL.out _ (hM.keep B3)).mono ?_)
    rintro e w4 ⟨rfl, hb4⟩
    have B4 := bel_step B3 hb4
    have hD4 := hD3.below hb4 hD3.lt
    go_wp2_with fail
    (with_reducible refine (HMY.out _).mono ?_)
    rintro e w5 ⟨rfl, hb5⟩
    have B5 := bel_step B4 hb5
    have hD5 := hD4.below hb5 hD4.lt
    clear hb3 hb4 hb5 hD2 hD3 hD4 B2 B3 B4
    have e0 := hD5.cell 0
    have e1 := hD5.cell 1
    have e2 := hD5.cell 2
    have e3 := hD5.cell 3
    have e4 := hD5.cell 4
    have e5 := hD5.cell 5
    simp at e0 e1 e2 e3 e4 e5
    go_wp2_with fail
    go_ret
    exact ⟨rfl, B5⟩
  | true =>
    have HOF := Lib.hid (fun W => of_yes n W hmay)
    have HRO := Lib.hid (fun W => of4_any n W hmay)
    have HSH := Lib.hid (fun W => show_yes n W hmay)
    have HRS := Lib.hid (fun W => show4_any n W hmay)
    obtain ⟨hok, hmo⟩ := ofD_ok hmay
    rw [hmay] at HMY
    have hsl := showT_len (ofD n)
    have HWB := Lib.hid (fun W => web_any (showT (ofD n)) W (by omega))
    have HAN := Lib.hid (fun W (h : MM M W) => any4_any (showT (ofD n)) M W (by omega) h)
    rw [web_show hok, hmo] at HWB
    rw [any_show hok, hmo] at HAN
    simp only [tOut, Option.getD_some, Option.isSome_some, if_true] at HWB HAN
    generalize hst : showT (ofD n) = st at *
    generalize ofD n = x at *
    obtain ⟨y, m, d, h_, mi, s⟩ := x
    have HMO := Lib.hid (fun W => moment_yes y m d h_ mi s W hok)
    rw [hmo] at HMO
    simp only [Dt.val, Dt.cells] at HOF HRO
    have hZ : Hid (∀ W, MM M W → Below w.heap.size w W → MM M W) := Lib.hid (fun W h _ => h)
    clear hst hok hmo hmay
    go_enter Tryd.func4, Tryd.ntmps4
    go_wp2_with fail
    (with_reducible refine (HOF.out _).mono ?_)
    rintro e w1 ⟨rfl, hb1⟩
    have B2 := bel_alloc hb1 (.cells #[.int .i64 y, .int .i64 m, .int .i64 d, .int .i64 h_, .int .i64 mi, .int .i64 s] 23)
    have hD2 := Blk.new w1 23 #[.int .i64 y, .int .i64 m, .int .i64 d, .int .i64 h_, .int .i64 mi, .int .i64 s]
    go_wp2_with fail
    (with_reducible refine (HSH.out _).mono ?_)
    rintro e w3 ⟨rfl, hb3⟩
    have B3 := bel_step B2 hb3
    have hD3 := hD2.below hb3 hD2.lt
    go_wp2_with fail
    (with_reducible refine (HL.out _ (hM.keep B3)).mono ?_)
    rintro e w4 ⟨rfl, hb4⟩
    have B4 := bel_step B3 hb4
    have hD4 := hD3.below hb4 hD3.lt
    go_wp2_with fail
    (with_reducible refine (HMY.out _).mono ?_)
    rintro e w5 ⟨rfl, hb5⟩
    have B5 := bel_step B4 hb5
    have hD5 := hD4.below hb5 hD4.lt
    clear hb3 hb4 hb5 hD2 hD3 hD4 B2 B3 B4
    have e0 := hD5.cell 0
    have e1 := hD5.cell 1
    have e2 := hD5.cell 2
    have e3 := hD5.cell 3
    have e4 := hD5.cell 4
    have e5 := hD5.cell 5
    simp at e0 e1 e2 e3 e4 e5
    go_wp2_with fail
    (with_reducible refine (HMO.out _).mono ?_)
    rintro e w6 ⟨rfl, hb6⟩
    have B6 := bel_step B5 hb6
    have hD6 := hD5.below hb6 hD5.lt
    clear e0 e1 e2 e3 e4 e5 hb6 hD5 B5
    go_wp2_with fail
    (with_reducible refine (HWB.out _).mono ?_)
    rintro e w7 ⟨rfl, hb7⟩
    have B7 := bel_step B6 hb7
    have hD7 := hD6.below hb7 hD6.lt
    clear hb7 hD6 B6
    go_wp2_with fail
    (with_reducible refine (HAN.out _ (hM.keep B7)).mono ?_)
    rintro e w8 ⟨rfl, hb8⟩
    have B8 := bel_step B7 hb8
    have hD8 := hD7.below hb8 hD7.lt
    clear hb8 hD7 B7
    go_wp2_with fail
    refine wp_region_ordR (fun w W => Below w.heap.size w W) (fun _ => Below.refl _ _) (fun _ _ _ => bel_step) (by kernel_rfl) (.take 0 (.take 1 (.take 2 (.take 3 (.take 4 (.exec 5 (.take 6 (.take 7 (.take 8 (.take 9 (.take 10 (.exec 11 (.take 12 (.take 13 (.take 14 (.take 15 (.take 16 (.take 17 (.take 18 (.take 19 (.take 20 (.take 21 (.take 22 (.take 23 (.take 24 (.take 25 (.take 26 (.take 27 (.take 28 (.take 29 (.take 30 (.take 31 (.take 32 (.take 33 (.take 34 (.take 35 (.take 36 (.take 37 (.take 38 (.take 39 (.take 40 (.take 41 (.nil))))))))))))))))))))))))))))))))))))))))))) (by kernel_rfl) (by kernel_rfl) (by kernel_rfl) ?_
    obtain ⟨w9, hw9⟩ : ∃ w9, w9 = w8.drew := ⟨_, rfl⟩
    have B9 : Below w.heap.size w w9 := by rw [hw9]; exact B8.drew
    have hD9 : Blk w9 w1.heap.size 23 #[.int .i64 y, .int .i64 m, .int .i64 d, .int .i64 h_, .int .i64 mi, .int .i64 s] := by rw [hw9]; exact hD8
    rw [← hw9]
    clear hw9 hD8 B8
    have c0 := fun W (hW : Below w9.heap.size w9 W) => (show W.cell? ⟨w1.heap.size, 0, none⟩ = some (.int .i64 y) from ((hD9.below hW hD9.lt).cell 0).trans rfl)
    have c1 := fun W (hW : Below w9.heap.size w9 W) => (show W.cell? ⟨w1.heap.size, 1, none⟩ = some (.int .i64 m) from ((hD9.below hW hD9.lt).cell 1).trans rfl)
    have c2 := fun W (hW : Below w9.heap.size w9 W) => (show W.cell? ⟨w1.heap.size, 2, none⟩ = some (.int .i64 d) from ((hD9.below hW hD9.lt).cell 2).trans rfl)
    have c3 := fun W (hW : Below w9.heap.size w9 W) => (show W.cell? ⟨w1.heap.size, 3, none⟩ = some (.int .i64 h_) from ((hD9.below hW hD9.lt).cell 3).trans rfl)
    have c4 := fun W (hW : Below w9.heap.size w9 W) => (show W.cell? ⟨w1.heap.size, 4, none⟩ = some (.int .i64 mi) from ((hD9.below hW hD9.lt).cell 4).trans rfl)
    have c5 := fun W (hW : Below w9.heap.size w9 W) => (show W.cell? ⟨w1.heap.size, 5, none⟩ = some (.int .i64 s) from ((hD9.below hW hD9.lt).cell 5).trans rfl)
    iterate 5 (refine wpOrd_take (o := ⟨_, _, _, _, _, _⟩) (v := ?_) rfl rfl ?_ ?_; rotate_left; (focus (intro W hW; go_simp; first | done | with_reducible rfl)); simp only [Act.put, List.setIfInBounds_toArray, List.set_cons_zero, List.set_cons_succ])
    clear c0 c1 c2 c3 c4 c5
    refine wpOrd_exec (o := ⟨_, _, _, _, _, _⟩) rfl rfl (fun K hK => ?_)
    go_simp
    (with_reducible refine (HRO.out _).mono ?_)
    rintro e wa ⟨rfl, hba⟩
    have Ba := bel_step B9 hba
    go_wp2_with fail
    refine hK _ _ hba ?_
    clear hK K hba
    iterate 5 (refine wpOrd_take (o := ⟨_, _, _, _, _, _⟩) (v := ?_) rfl rfl ?_ ?_; rotate_left; (focus (intro W hW; go_simp; first | done | with_reducible rfl)); simp only [Act.put, List.setIfInBounds_toArray, List.set_cons_zero, List.set_cons_succ])
    refine wpOrd_exec (o := ⟨_, _, _, _, _, _⟩) rfl rfl (fun K hK => ?_)
    go_simp
    (with_reducible refine (HRS.out _).mono ?_)
    rintro e wb ⟨rfl, hbb⟩
    have Bb := bel_step Ba hbb
    go_wp2_with fail
    refine hK _ _ hbb ?_
    clear hK K hbb
    iterate 30 (refine wpOrd_take (o := ⟨_, _, _, _, _, _⟩) (v := ?_) rfl rfl ?_ ?_; rotate_left; (focus (intro W hW; go_simp; first | done | with_reducible rfl)); simp only [Act.put, List.setIfInBounds_toArray, List.set_cons_zero, List.set_cons_succ])
    refine wpOrd_nil ?_
    go_wp2_with fail
    go_ret
    exact ⟨rfl, Bb⟩
set_option maxHeartbeats 8000000 in
theorem dateReads_walk (l : List UInt8) (M : Int) (w : World) (hM : MM M w) (hl : l.length ≤ 9223372036854775807)
    (HRM : ∀ (S : ByteArray) (W : World), S.size ≤ 100000 → Calls Tryd.prog 23 #[.string S] W fun e w' => e = .returned (znV (mailR (bl S))) ∧ Below W.heap.size W w')
    (HRA : ∀ (S : ByteArray) (W : World), S.size ≤ 100000 → Calls Tryd.prog 24 #[.string S] W fun e w' => e = .returned (znV (anyC (bl S))) ∧ Below W.heap.size W w') :
    Calls Tryd.prog 5 #[.string ⟨l.toArray⟩] w (RetTrue w) := by
  have HL := Lib.hid (fun W h => lives04_any M W h)
  by_cases h1000 : 1000 < l.length
  · have t1 : decide ((1000 : Int) < (l.length : Int)) = true := by simp; omega
    have t1b : decide (1000 < l.length) = true := by simp; omega
    clear HRM HRA
    go_enter Tryd.func5, Tryd.ntmps5
    go_wp2_with fail
    (with_reducible refine (HL.out _ hM).mono ?_)
    rintro e w1 ⟨rfl, hb1⟩
    go_wp2_with fail
    go_ret
    exact ⟨rfl, hb1⟩
  · have t1 : decide ((1000 : Int) < (l.length : Int)) = false := by simp; omega
    have t1b : decide (1000 < l.length) = false := by simp; omega
    have HW := Lib.hid (fun W => web_any l W (by omega))
    have HML := Lib.hid (fun W (h : MM M W) => mail_any l M W (by omega) h)
    have HAN := Lib.hid (fun W (h : MM M W) => any4_any l M W (by omega) h)
    have HRW := Lib.hid (fun W => web4_any ⟨l.toArray⟩ W (by rw [size_of]; omega))
    have HRM := Lib.hid (fun W => HRM ⟨l.toArray⟩ W (by rw [size_of]; omega))
    have HRA := Lib.hid (fun W => HRA ⟨l.toArray⟩ W (by rw [size_of]; omega))
    rw [bl_of] at HRW HRM HRA
    rw [← web_same] at HRW
    rw [← mail_same] at HRM
    simp only [tOut, znV] at HW HML HAN HRW HRM HRA
    clear h1000
    generalize webC l = o1 at *
    generalize mailC l = o2 at *
    generalize anyC l = o3 at *
    cases o1 <;> cases o2 <;> cases o3
    all_goals
      simp only [Option.getD_none, Option.isSome_none, Option.getD_some, Option.isSome_some, if_true, Bool.false_eq_true, if_false] at HW HML HAN HRW HRM HRA
      go_enter Tryd.func5, Tryd.ntmps5
      go_wp2_with fail
      (with_reducible refine (HW.out _).mono ?_)
      rintro e w1 ⟨rfl, B1⟩
      go_wp2_with fail
      (with_reducible refine (HML.out _ (hM.keep B1)).mono ?_)
      rintro e w2 ⟨rfl, hb2⟩
      have B2 := bel_step B1 hb2
      clear hb2
      go_wp2_with fail
      (with_reducible refine (HAN.out _ (hM.keep B2)).mono ?_)
      rintro e w3 ⟨rfl, hb3⟩
      have B3 := bel_step B2 hb3
      clear hb3
      go_wp2_with fail
      (with_reducible refine (HRW.out _).mono ?_)
      rintro e w4 ⟨rfl, hb4⟩
      have B4 := bel_step B3 hb4
      clear hb4
      go_wp2_with fail
      (with_reducible refine (HRM.out _).mono ?_)
      rintro e w5 ⟨rfl, hb5⟩
      have B5 := bel_step B4 hb5
      clear hb5
      go_wp2_with fail
      (with_reducible refine (HRA.out _).mono ?_)
      rintro e w6 ⟨rfl, hb6⟩
      have B6 := bel_step B5 hb6
      clear hb6
      go_wp2_with fail
      (with_reducible refine (HL.out _ (hM.keep B6)).mono ?_)
      rintro e w7 ⟨rfl, hb7⟩
      have B7 := bel_step B6 hb7
      go_wp2_with fail
      go_ret
      exact ⟨rfl, B7⟩
theorem ofD_ne {n k : Int} (h1 : mayM n = true) (h2 : mayM (n + 86400 * k) = true) (hk : k ≠ 0) : ¬ ((ofD n).y = (ofD (n + 86400 * k)).y ∧ (ofD n).m = (ofD (n + 86400 * k)).m ∧ (ofD n).d = (ofD (n + 86400 * k)).d) := by
  rintro ⟨a, b, c⟩
  obtain ⟨e1, e2, e3⟩ := ofD_hms h1 h2
  have e : ofD n = ofD (n + 86400 * k) := by
    generalize ofD n = x at *
    generalize ofD (n + 86400 * k) = z at *
    obtain ⟨y, m, d, h_, mi, s⟩ := x
    obtain ⟨y', m', d', h', mi', s'⟩ := z
    simp only at a b c e1 e2 e3
    rw [a, b, c, e1, e2, e3]
  have g1 := (ofD_ok h1).2
  have g2 := (ofD_ok h2).2
  rw [← e, g1] at g2
  omega
set_option maxHeartbeats 8000000 in
theorem dateOrders_walk (n k : Int) (M : Int) (w : World) (hM : MM M w) (hn0 : -9223372036854775808 ≤ n) (hn1 : n ≤ 9223372036854775807) : Calls Tryd.prog 6 #[.int .i64 n, .int .i64 k] w (RetTrue w) := by
  have HL := Lib.hid (fun W h => lives04_any M W h)
  by_cases hk0 : k < 0
  · have t0 : decide (k < 0) = true := by simpa using hk0
    go_enter Tryd.func6, Tryd.ntmps6
    go_wp2_with fail
    (with_reducible refine (HL.out _ hM).mono ?_)
    rintro e w1 ⟨rfl, hb1⟩
    go_wp2_with fail
    go_ret
    exact ⟨rfl, hb1⟩
  have t0 : decide (k < 0) = false := by simpa using hk0
  by_cases hk4 : 4000000 < k
  · have t4 : decide (4000000 < k) = true := by simpa using hk4
    go_enter Tryd.func6, Tryd.ntmps6
    go_wp2_with fail
    (with_reducible refine (HL.out _ hM).mono ?_)
    rintro e w1 ⟨rfl, hb1⟩
    go_wp2_with fail
    go_ret
    exact ⟨rfl, hb1⟩
  have t4 : decide (4000000 < k) = false := by simpa using hk4
  have HMY := Lib.hid (fun W => refMay4_any n W)
  cases hmay : mayM n with
  | false =>
    rw [hmay] at HMY
    clear hmay
    go_enter Tryd.func6, Tryd.ntmps6
    go_wp2_with fail
    (with_reducible refine (HMY.out _).mono ?_)
    rintro e w1 ⟨rfl, hb1⟩
    go_wp2_with fail
    (with_reducible refine (HL.out _ (hM.keep hb1)).mono ?_)
    rintro e w2 ⟨rfl, hb2⟩
    go_wp2_with fail
    go_ret
    exact ⟨rfl, bel_step hb1 hb2⟩
  | true =>
    rw [hmay] at HMY
    have hmb := mayM_iff.1 hmay
    have k1 : IntKind.i64.wrap (86400 * k) = 86400 * k := IntWalk.i64_in _ (by omega)
    have k2 : IntKind.i64.wrap (n + 86400 * k) = n + 86400 * k := IntWalk.i64_in _ (by omega)
    have HMZ := Lib.hid (fun W => refMay4_any (n + 86400 * k) W)
    cases hmaz : mayM (n + 86400 * k) with
    | false =>
      rw [hmaz] at HMZ
      clear hmay hmaz
      go_enter Tryd.func6, Tryd.ntmps6
      go_wp2_with fail
      (with_reducible refine (HMY.out _).mono ?_)
      rintro e w1 ⟨rfl, hb1⟩
      go_wp2_with fail
      (with_reducible refine (HMZ.out _).mono ?_)
      rintro e w2 ⟨rfl, hb2⟩
      have B2 := bel_step hb1 hb2
      go_wp2_with fail
      (with_reducible refine (HL.out _ (hM.keep B2)).mono ?_)
      rintro e w3 ⟨rfl, hb3⟩
      go_wp2_with fail
      go_ret
      exact ⟨rfl, bel_step B2 hb3⟩
    | true =>
      rw [hmaz] at HMZ
      have HO1 := Lib.hid (fun W => of_yes n W hmay)
      have HO2 := Lib.hid (fun W => of_yes (n + 86400 * k) W hmaz)
      obtain ⟨e1, e2, e3⟩ := ofD_hms hmay hmaz
      have hym := year_mono (ofD_ok hmay).1 (ofD_ok hmaz).1 (by rw [(ofD_ok hmay).2, (ofD_ok hmaz).2]; omega)
      have hne := fun h => ofD_ne (k := k) hmay hmaz h
      have heq : k = 0 → ofD (n + 86400 * k) = ofD n := by
        intro h
        rw [h, Int.mul_zero, Int.add_zero]
      clear hmay hmaz
      generalize ofD n = x at *
      generalize ofD (n + 86400 * k) = z at *
      obtain ⟨y, m, d, h_, mi, s⟩ := x
      obtain ⟨y', m', d', h', mi', s'⟩ := z
      simp only [Dt.val, Dt.cells] at e1 e2 e3 hym hne HO1 HO2
      subst e1 e2 e3
      by_cases hkz : k = 0
      · have h0 := heq hkz
        injection h0 with h1 h2 h3
        subst h1 h2 h3
        have tz : (k == 0) = true := by simpa using hkz
        have ty : decide (y' ≤ y') = true := by simp
        clear hkz heq hne hym
        go_enter Tryd.func6, Tryd.ntmps6
        go_wp2_with fail
        (with_reducible refine (HMY.out _).mono ?_)
        rintro e w1 ⟨rfl, hb1⟩
        go_wp2_with fail
        (with_reducible refine (HMZ.out _).mono ?_)
        rintro e w2 ⟨rfl, hb2⟩
        have B2 := bel_step hb1 hb2
        clear hb1 hb2
        go_wp2_with fail
        (with_reducible refine (HO1.out _).mono ?_)
        rintro e w3 ⟨rfl, hb3⟩
        have B3 := bel_step B2 hb3
        have B4 := bel_alloc B3 (.cells #[.int .i64 y', .int .i64 m', .int .i64 d', .int .i64 h', .int .i64 mi', .int .i64 s'] 23)
        have hX4 := Blk.new w3 23 #[.int .i64 y', .int .i64 m', .int .i64 d', .int .i64 h', .int .i64 mi', .int .i64 s']
        clear B2 hb3 B3
        go_wp2_with fail
        (with_reducible refine (HO2.out _).mono ?_)
        rintro e w5 ⟨rfl, hb5⟩
        have B5 := bel_step B4 hb5
        have B6 := bel_alloc B5 (.cells #[.int .i64 y', .int .i64 m', .int .i64 d', .int .i64 h', .int .i64 mi', .int .i64 s'] 23)
        have hX5 := hX4.below hb5 hX4.lt
        have hX6 := hX5.alloc (.cells #[.int .i64 y', .int .i64 m', .int .i64 d', .int .i64 h', .int .i64 mi', .int .i64 s'] 23)
        have hZ6 := Blk.new w5 23 #[.int .i64 y', .int .i64 m', .int .i64 d', .int .i64 h', .int .i64 mi', .int .i64 s']
        clear B4 hb5 B5 hX4 hX5
        go_wp2_with fail
        (with_reducible refine (HL.out _ (hM.keep B6)).mono ?_)
        rintro e w7 ⟨rfl, hb7⟩
        have B7 := bel_step B6 hb7
        have hX7 := hX6.below hb7 hX6.lt
        have hZ7 := hZ6.below hb7 hZ6.lt
        clear hb7 B6 hX6 hZ6
        have a0 := hX7.cell 0
        have a1 := hX7.cell 1
        have a2 := hX7.cell 2
        have a3 := hX7.cell 3
        have a4 := hX7.cell 4
        have a5 := hX7.cell 5
        have b0 := hZ7.cell 0
        have b1 := hZ7.cell 1
        have b2 := hZ7.cell 2
        have b3 := hZ7.cell 3
        have b4 := hZ7.cell 4
        have b5 := hZ7.cell 5
        simp at a0 a1 a2 a3 a4 a5 b0 b1 b2 b3 b4 b5
        go_wp2_with fail
        go_ret
        exact ⟨rfl, B7⟩
      · have hn := hne hkz
        have tz : (k == 0) = false := by simpa using hkz
        have ty : decide (y ≤ y') = true := by simpa using hym
        clear heq hne
        by_cases h1 : y = y'
        · subst h1
          by_cases h2 : m = m'
          · subst h2
            have h3 : ¬ d = d' := fun h => hn ⟨rfl, rfl, h⟩
            have t3 : (d == d') = false := by simpa using h3
            clear hn
            go_enter Tryd.func6, Tryd.ntmps6
            go_wp2_with fail
            (with_reducible refine (HMY.out _).mono ?_)
            rintro e w1 ⟨rfl, hb1⟩
            go_wp2_with fail
            (with_reducible refine (HMZ.out _).mono ?_)
            rintro e w2 ⟨rfl, hb2⟩
            have B2 := bel_step hb1 hb2
            clear hb1 hb2
            go_wp2_with fail
            (with_reducible refine (HO1.out _).mono ?_)
            rintro e w3 ⟨rfl, hb3⟩
            have B3 := bel_step B2 hb3
            have B4 := bel_alloc B3 (.cells #[.int .i64 y, .int .i64 m, .int .i64 d, .int .i64 h', .int .i64 mi', .int .i64 s'] 23)
            have hX4 := Blk.new w3 23 #[.int .i64 y, .int .i64 m, .int .i64 d, .int .i64 h', .int .i64 mi', .int .i64 s']
            clear B2 hb3 B3
            go_wp2_with fail
            (with_reducible refine (HO2.out _).mono ?_)
            rintro e w5 ⟨rfl, hb5⟩
            have B5 := bel_step B4 hb5
            have B6 := bel_alloc B5 (.cells #[.int .i64 y, .int .i64 m, .int .i64 d', .int .i64 h', .int .i64 mi', .int .i64 s'] 23)
            have hX5 := hX4.below hb5 hX4.lt
            have hX6 := hX5.alloc (.cells #[.int .i64 y, .int .i64 m, .int .i64 d', .int .i64 h', .int .i64 mi', .int .i64 s'] 23)
            have hZ6 := Blk.new w5 23 #[.int .i64 y, .int .i64 m, .int .i64 d', .int .i64 h', .int .i64 mi', .int .i64 s']
            clear B4 hb5 B5 hX4 hX5
            go_wp2_with fail
            (with_reducible refine (HL.out _ (hM.keep B6)).mono ?_)
            rintro e w7 ⟨rfl, hb7⟩
            have B7 := bel_step B6 hb7
            have hX7 := hX6.below hb7 hX6.lt
            have hZ7 := hZ6.below hb7 hZ6.lt
            clear hb7 B6 hX6 hZ6
            have a0 := hX7.cell 0
            have a1 := hX7.cell 1
            have a2 := hX7.cell 2
            have a3 := hX7.cell 3
            have a4 := hX7.cell 4
            have a5 := hX7.cell 5
            have b0 := hZ7.cell 0
            have b1 := hZ7.cell 1
            have b2 := hZ7.cell 2
            have b3 := hZ7.cell 3
            have b4 := hZ7.cell 4
            have b5 := hZ7.cell 5
            simp at a0 a1 a2 a3 a4 a5 b0 b1 b2 b3 b4 b5
            go_wp2_with fail
            go_ret
            exact ⟨rfl, B7⟩
          · have t3 : (m == m') = false := by simpa using h2
            clear hn
            go_enter Tryd.func6, Tryd.ntmps6
            go_wp2_with fail
            (with_reducible refine (HMY.out _).mono ?_)
            rintro e w1 ⟨rfl, hb1⟩
            go_wp2_with fail
            (with_reducible refine (HMZ.out _).mono ?_)
            rintro e w2 ⟨rfl, hb2⟩
            have B2 := bel_step hb1 hb2
            clear hb1 hb2
            go_wp2_with fail
            (with_reducible refine (HO1.out _).mono ?_)
            rintro e w3 ⟨rfl, hb3⟩
            have B3 := bel_step B2 hb3
            have B4 := bel_alloc B3 (.cells #[.int .i64 y, .int .i64 m, .int .i64 d, .int .i64 h', .int .i64 mi', .int .i64 s'] 23)
            have hX4 := Blk.new w3 23 #[.int .i64 y, .int .i64 m, .int .i64 d, .int .i64 h', .int .i64 mi', .int .i64 s']
            clear B2 hb3 B3
            go_wp2_with fail
            (with_reducible refine (HO2.out _).mono ?_)
            rintro e w5 ⟨rfl, hb5⟩
            have B5 := bel_step B4 hb5
            have B6 := bel_alloc B5 (.cells #[.int .i64 y, .int .i64 m', .int .i64 d', .int .i64 h', .int .i64 mi', .int .i64 s'] 23)
            have hX5 := hX4.below hb5 hX4.lt
            have hX6 := hX5.alloc (.cells #[.int .i64 y, .int .i64 m', .int .i64 d', .int .i64 h', .int .i64 mi', .int .i64 s'] 23)
            have hZ6 := Blk.new w5 23 #[.int .i64 y, .int .i64 m', .int .i64 d', .int .i64 h', .int .i64 mi', .int .i64 s']
            clear B4 hb5 B5 hX4 hX5
            go_wp2_with fail
            (with_reducible refine (HL.out _ (hM.keep B6)).mono ?_)
            rintro e w7 ⟨rfl, hb7⟩
            have B7 := bel_step B6 hb7
            have hX7 := hX6.below hb7 hX6.lt
            have hZ7 := hZ6.below hb7 hZ6.lt
            clear hb7 B6 hX6 hZ6
            have a0 := hX7.cell 0
            have a1 := hX7.cell 1
            have a2 := hX7.cell 2
            have a3 := hX7.cell 3
            have a4 := hX7.cell 4
            have a5 := hX7.cell 5
            have b0 := hZ7.cell 0
            have b1 := hZ7.cell 1
            have b2 := hZ7.cell 2
            have b3 := hZ7.cell 3
            have b4 := hZ7.cell 4
            have b5 := hZ7.cell 5
            simp at a0 a1 a2 a3 a4 a5 b0 b1 b2 b3 b4 b5
            go_wp2_with fail
            go_ret
            exact ⟨rfl, B7⟩
        · have t3 : (y == y') = false := by simpa using h1
          clear hn
          go_enter Tryd.func6, Tryd.ntmps6
          go_wp2_with fail
          (with_reducible refine (HMY.out _).mono ?_)
          rintro e w1 ⟨rfl, hb1⟩
          go_wp2_with fail
          (with_reducible refine (HMZ.out _).mono ?_)
          rintro e w2 ⟨rfl, hb2⟩
          have B2 := bel_step hb1 hb2
          clear hb1 hb2
          go_wp2_with fail
          (with_reducible refine (HO1.out _).mono ?_)
          rintro e w3 ⟨rfl, hb3⟩
          have B3 := bel_step B2 hb3
          have B4 := bel_alloc B3 (.cells #[.int .i64 y, .int .i64 m, .int .i64 d, .int .i64 h', .int .i64 mi', .int .i64 s'] 23)
          have hX4 := Blk.new w3 23 #[.int .i64 y, .int .i64 m, .int .i64 d, .int .i64 h', .int .i64 mi', .int .i64 s']
          clear B2 hb3 B3
          go_wp2_with fail
          (with_reducible refine (HO2.out _).mono ?_)
          rintro e w5 ⟨rfl, hb5⟩
          have B5 := bel_step B4 hb5
          have B6 := bel_alloc B5 (.cells #[.int .i64 y', .int .i64 m', .int .i64 d', .int .i64 h', .int .i64 mi', .int .i64 s'] 23)
          have hX5 := hX4.below hb5 hX4.lt
          have hX6 := hX5.alloc (.cells #[.int .i64 y', .int .i64 m', .int .i64 d', .int .i64 h', .int .i64 mi', .int .i64 s'] 23)
          have hZ6 := Blk.new w5 23 #[.int .i64 y', .int .i64 m', .int .i64 d', .int .i64 h', .int .i64 mi', .int .i64 s']
          clear B4 hb5 B5 hX4 hX5
          go_wp2_with fail
          (with_reducible refine (HL.out _ (hM.keep B6)).mono ?_)
          rintro e w7 ⟨rfl, hb7⟩
          have B7 := bel_step B6 hb7
          have hX7 := hX6.below hb7 hX6.lt
          have hZ7 := hZ6.below hb7 hZ6.lt
          clear hb7 B6 hX6 hZ6
          have a0 := hX7.cell 0
          have a1 := hX7.cell 1
          have a2 := hX7.cell 2
          have a3 := hX7.cell 3
          have a4 := hX7.cell 4
          have a5 := hX7.cell 5
          have b0 := hZ7.cell 0
          have b1 := hZ7.cell 1
          have b2 := hZ7.cell 2
          have b3 := hZ7.cell 3
          have b4 := hZ7.cell 4
          have b5 := hZ7.cell 5
          simp at a0 a1 a2 a3 a4 a5 b0 b1 b2 b3 b4 b5
          go_wp2_with fail
          go_ret
          exact ⟨rfl, B7⟩
end Go.Proofs.YtobidipkgaaecaaDoor
