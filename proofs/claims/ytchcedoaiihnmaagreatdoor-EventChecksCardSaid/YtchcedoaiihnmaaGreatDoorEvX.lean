/-
  Events: EventChecks, EventFields walked (printed by gen_evx.py).
-/
import Derived.Test.YtchcedoaiihnmaaGreatDoorEvV
import Derived.Test.YtchcedoaiihnmaaGreatDoorEvL
import Derived.Test.YtchcedoaiihnmaaGreatDoorEvU
import Derived.Test.YtchcedoaiihnmaaGreatDoorCdB
namespace Go.Proofs.YtchcedoaiihnmaaGreatDoor
open Go.RowKit Go.Nst
set_option maxRecDepth 100000
set_option linter.unusedVariables false
set_option linter.unusedSimpArgs false

theorem large_cases (s t u : List UInt8) : largeB s t u = true ∨ (largeB s t u = false ∧ s.length ≤ 1000 ∧ t.length ≤ 1000 ∧ u.length ≤ 1000) := by
  cases h : largeB s t u with
  | true => exact .inl rfl
  | false =>
    right
    unfold largeB at h
    simp at h
    exact ⟨rfl, h.1, h.2.1, h.2.2⟩
set_option maxHeartbeats 16000000 in
theorem eventChecks_walk (k a b n : Int) (s t u : List UInt8) (m : Int) (w : World) (hM : EvW m w) (ia : in64e a) (ib : in64e b) (in_ : in64e n)
    (ls : s.length ≤ 9223372036854775807) (lt_ : t.length ≤ 9223372036854775807) (lu : u.length ≤ 9223372036854775807) : Calls Tryz.prog 3 #[.agg #[.int .i64 k, .int .i64 a, .int .i64 b, .int .i64 n, .string ⟨s.toArray⟩, .string ⟨t.toArray⟩, .string ⟨u.toArray⟩]] w (RetTrue w) := by
  have HL := Lib.hid (fun W h => lives14_any m W h)
  have HP := Lib.hid (fun W => large14_any k a b n s t u W ls lt_ lu)
  have HI := Lib.hid (fun W => item14_any k a b n s t u W)
  have HRI := Lib.hid (fun W => refItem14_any k a b n s t u W)
  have HNM := Lib.hid (fun W (h : EvW m W) => name_any k W h.nms)
  have HRN := Lib.hid (fun W => refName14_any k W)
  simp only [evV, itV] at HP HI HRI
  have B1 := bel_alloc (Below.refl w.heap.size w) (.cells #[.int .i64 k, .int .i64 a, .int .i64 b, .int .i64 n, .string ⟨s.toArray⟩, .string ⟨t.toArray⟩, .string ⟨u.toArray⟩] 23)
  have hP1 := Blk.new w 23 #[.int .i64 k, .int .i64 a, .int .i64 b, .int .i64 n, .string ⟨s.toArray⟩, .string ⟨t.toArray⟩, .string ⟨u.toArray⟩]
  rcases large_cases s t u with hlp | ⟨hlp, l1, l2, l3⟩
  · rw [hlp] at HP
    clear hlp
    go_enter Tryz.func3, Tryz.ntmps3
    have z0 := hP1.cell 0
    have z1 := hP1.cell 1
    have z2 := hP1.cell 2
    have z3 := hP1.cell 3
    have z4 := hP1.cell 4
    have z5 := hP1.cell 5
    have z6 := hP1.cell 6
    simp at z0 z1 z2 z3 z4 z5 z6
    go_wp2_with fail
    (with_reducible refine (HP.out _).mono ?_)
    rintro e w1 ⟨rfl, hb⟩
    have B1 := bel_step B1 hb
    have hP1 := hP1.below hb hP1.lt
    clear hb
    clear z0 z1 z2 z3 z4 z5 z6
    go_wp2_with fail
    (with_reducible refine (HL.out _ (hM.keep B1)).mono ?_)
    rintro e w2 ⟨rfl, hb⟩
    have B1 := bel_step B1 hb
    have hP1 := hP1.below hb hP1.lt
    clear hb
    go_wp2_with fail
    go_ret
    exact ⟨rfl, B1⟩
  rw [hlp] at HP
  clear hlp
  have HRC := Lib.hid (fun W => refCheck_any k a b n s t u W (by omega) (by omega) (by omega))
  have HCK := Lib.hid (fun W => check14_any k a b n s t u W (by omega) (by omega) (by omega))
  have HSH := Lib.hid (fun W h => show14_any k a b n s t u m W h ia ib in_ (by omega) (by omega) (by omega))
  have HRS := Lib.hid (fun W => refShow14_any k a b n s t u W ia ib in_ (by omega) (by omega) (by omega))
  simp only [evV] at HRC HCK HSH HRS
  generalize showK k a b n s t u (nameK k) = sres at *
  generalize nameK k = nm at *
  generalize itemO k a = io at *
  clear ia ib in_ ls lt_ lu
  cases hok : evOK k a b n s t u
  all_goals
    rw [hok] at HRC HCK
    simp only [Bool.false_eq_true, if_false, if_true] at HCK
    clear hok
    cases io
    all_goals
      simp only [Option.getD_none, Option.isSome_none, Option.getD_some, Option.isSome_some] at HI HRI
      go_enter Tryz.func3, Tryz.ntmps3
      have z0 := hP1.cell 0
      have z1 := hP1.cell 1
      have z2 := hP1.cell 2
      have z3 := hP1.cell 3
      have z4 := hP1.cell 4
      have z5 := hP1.cell 5
      have z6 := hP1.cell 6
      simp at z0 z1 z2 z3 z4 z5 z6
      go_wp2_with fail
      (with_reducible refine (HP.out _).mono ?_)
      rintro e w1 ⟨rfl, hb⟩
      have B1 := bel_step B1 hb
      have hP1 := hP1.below hb hP1.lt
      clear hb
      clear z0 z1 z2 z3 z4 z5 z6
      have z0 := hP1.cell 0
      have z1 := hP1.cell 1
      have z2 := hP1.cell 2
      have z3 := hP1.cell 3
      have z4 := hP1.cell 4
      have z5 := hP1.cell 5
      have z6 := hP1.cell 6
      simp at z0 z1 z2 z3 z4 z5 z6
      go_wp2_with fail
      (with_reducible refine (HRC.out _).mono ?_)
      rintro e w2 ⟨rfl, hb⟩
      have B1 := bel_step B1 hb
      have hP1 := hP1.below hb hP1.lt
      clear hb
      clear z0 z1 z2 z3 z4 z5 z6
      have z0 := hP1.cell 0
      have z1 := hP1.cell 1
      have z2 := hP1.cell 2
      have z3 := hP1.cell 3
      have z4 := hP1.cell 4
      have z5 := hP1.cell 5
      have z6 := hP1.cell 6
      simp at z0 z1 z2 z3 z4 z5 z6
      go_wp2_with fail
      (with_reducible refine (HI.out _).mono ?_)
      rintro e w3 ⟨rfl, hb⟩
      have B1 := bel_step B1 hb
      have hP1 := hP1.below hb hP1.lt
      clear hb
      clear z0 z1 z2 z3 z4 z5 z6
      have z0 := hP1.cell 0
      have z1 := hP1.cell 1
      have z2 := hP1.cell 2
      have z3 := hP1.cell 3
      have z4 := hP1.cell 4
      have z5 := hP1.cell 5
      have z6 := hP1.cell 6
      simp at z0 z1 z2 z3 z4 z5 z6
      go_wp2_with fail
      (with_reducible refine (HRI.out _).mono ?_)
      rintro e w4 ⟨rfl, hb⟩
      have B1 := bel_step B1 hb
      have hP1 := hP1.below hb hP1.lt
      clear hb
      clear z0 z1 z2 z3 z4 z5 z6
      go_wp2_with fail
      refine wp_region_ordR (fun w W => Below w.heap.size w W) (fun _ => Below.refl _ _) (fun _ _ _ => bel_step) (by kernel_rfl) (.exec 0 (.take 1 (.take 2 (.take 4 (.exec 3 (.take 5 (.take 6 (.take 7 (.take 8 (.take 9 (.take 11 (.take 12 (.exec 10 (.exec 13 (.take 14 (.take 15 (.take 16 (.take 17 (.take 19 (.exec 18 (.exec 20 (.take 21 (.take 22 (.take 23 (.take 24 (.take 25 (.take 26 (.take 27 (.take 28 (.take 29 (.take 30 (.take 31 (.take 32 (.take 33 (.nil))))))))))))))))))))))))))))))))))) (by kernel_rfl) (by kernel_rfl) (by kernel_rfl) ?_
      obtain ⟨w5, hw5⟩ : ∃ w5, w5 = w4.drew := ⟨_, rfl⟩
      have B1 : Below w.heap.size w w5 := by rw [hw5]; exact B1.drew
      have hP1 : Blk w5 w.heap.size 23 #[.int .i64 k, .int .i64 a, .int .i64 b, .int .i64 n, .string ⟨s.toArray⟩, .string ⟨t.toArray⟩, .string ⟨u.toArray⟩] := by rw [hw5]; exact hP1
      rw [← hw5]
      clear hw5
      refine wpOrd_exec (o := ⟨_, _, _, _, _, _⟩) rfl rfl (fun K hK => ?_)
      go_simp
      (with_reducible refine (HL.out _ (hM.keep B1)).mono ?_)
      rintro e w6 ⟨rfl, hb⟩
      have B1 := bel_step B1 hb
      have hP1 := hP1.below hb hP1.lt
      go_wp2_with fail
      refine hK _ _ hb ?_
      clear hK K hb
      have c0 := fun W (hW : Below w6.heap.size w6 W) => (show W.cell? ⟨w.heap.size, 0, none⟩ = some (.int .i64 k) from ((hP1.below hW hP1.lt).cell 0).trans rfl)
      have c1 := fun W (hW : Below w6.heap.size w6 W) => (show W.cell? ⟨w.heap.size, 1, none⟩ = some (.int .i64 a) from ((hP1.below hW hP1.lt).cell 1).trans rfl)
      have c2 := fun W (hW : Below w6.heap.size w6 W) => (show W.cell? ⟨w.heap.size, 2, none⟩ = some (.int .i64 b) from ((hP1.below hW hP1.lt).cell 2).trans rfl)
      have c3 := fun W (hW : Below w6.heap.size w6 W) => (show W.cell? ⟨w.heap.size, 3, none⟩ = some (.int .i64 n) from ((hP1.below hW hP1.lt).cell 3).trans rfl)
      have c4 := fun W (hW : Below w6.heap.size w6 W) => (show W.cell? ⟨w.heap.size, 4, none⟩ = some (.string ⟨s.toArray⟩) from ((hP1.below hW hP1.lt).cell 4).trans rfl)
      have c5 := fun W (hW : Below w6.heap.size w6 W) => (show W.cell? ⟨w.heap.size, 5, none⟩ = some (.string ⟨t.toArray⟩) from ((hP1.below hW hP1.lt).cell 5).trans rfl)
      have c6 := fun W (hW : Below w6.heap.size w6 W) => (show W.cell? ⟨w.heap.size, 6, none⟩ = some (.string ⟨u.toArray⟩) from ((hP1.below hW hP1.lt).cell 6).trans rfl)
      iterate 3 (refine wpOrd_take (o := ⟨_, _, _, _, _, _⟩) (v := ?_) rfl rfl ?_ ?_; rotate_left; (focus (intro W hW; go_simp; first | done | with_reducible rfl)); simp only [Act.put, List.setIfInBounds_toArray, List.set_cons_zero, List.set_cons_succ])
      clear c0 c1 c2 c3 c4 c5 c6
      refine wpOrd_exec (o := ⟨_, _, _, _, _, _⟩) rfl rfl (fun K hK => ?_)
      go_simp
      (with_reducible refine (HCK.out _).mono ?_)
      rintro e w7 ⟨rfl, hb⟩
      have B1 := bel_step B1 hb
      have hP1 := hP1.below hb hP1.lt
      go_wp2_with fail
      refine hK _ _ hb ?_
      clear hK K hb
      have c0 := fun W (hW : Below w7.heap.size w7 W) => (show W.cell? ⟨w.heap.size, 0, none⟩ = some (.int .i64 k) from ((hP1.below hW hP1.lt).cell 0).trans rfl)
      have c1 := fun W (hW : Below w7.heap.size w7 W) => (show W.cell? ⟨w.heap.size, 1, none⟩ = some (.int .i64 a) from ((hP1.below hW hP1.lt).cell 1).trans rfl)
      have c2 := fun W (hW : Below w7.heap.size w7 W) => (show W.cell? ⟨w.heap.size, 2, none⟩ = some (.int .i64 b) from ((hP1.below hW hP1.lt).cell 2).trans rfl)
      have c3 := fun W (hW : Below w7.heap.size w7 W) => (show W.cell? ⟨w.heap.size, 3, none⟩ = some (.int .i64 n) from ((hP1.below hW hP1.lt).cell 3).trans rfl)
      have c4 := fun W (hW : Below w7.heap.size w7 W) => (show W.cell? ⟨w.heap.size, 4, none⟩ = some (.string ⟨s.toArray⟩) from ((hP1.below hW hP1.lt).cell 4).trans rfl)
      have c5 := fun W (hW : Below w7.heap.size w7 W) => (show W.cell? ⟨w.heap.size, 5, none⟩ = some (.string ⟨t.toArray⟩) from ((hP1.below hW hP1.lt).cell 5).trans rfl)
      have c6 := fun W (hW : Below w7.heap.size w7 W) => (show W.cell? ⟨w.heap.size, 6, none⟩ = some (.string ⟨u.toArray⟩) from ((hP1.below hW hP1.lt).cell 6).trans rfl)
      iterate 7 (refine wpOrd_take (o := ⟨_, _, _, _, _, _⟩) (v := ?_) rfl rfl ?_ ?_; rotate_left; (focus (intro W hW; go_simp; first | done | with_reducible rfl)); simp only [Act.put, List.setIfInBounds_toArray, List.set_cons_zero, List.set_cons_succ])
      clear c0 c1 c2 c3 c4 c5 c6
      refine wpOrd_exec (o := ⟨_, _, _, _, _, _⟩) rfl rfl (fun K hK => ?_)
      go_simp
      (with_reducible refine (HNM.out _ (hM.keep B1)).mono ?_)
      rintro e w8 ⟨rfl, rfl⟩
      go_wp2_with fail
      refine hK _ _ (Below.refl _ _) ?_
      clear hK K
      refine wpOrd_exec (o := ⟨_, _, _, _, _, _⟩) rfl rfl (fun K hK => ?_)
      go_simp
      (with_reducible refine (HRN.out _).mono ?_)
      rintro e w9 ⟨rfl, hb⟩
      have B1 := bel_step B1 hb
      have hP1 := hP1.below hb hP1.lt
      go_wp2_with fail
      refine hK _ _ hb ?_
      clear hK K hb
      have c0 := fun W (hW : Below w9.heap.size w9 W) => (show W.cell? ⟨w.heap.size, 0, none⟩ = some (.int .i64 k) from ((hP1.below hW hP1.lt).cell 0).trans rfl)
      have c1 := fun W (hW : Below w9.heap.size w9 W) => (show W.cell? ⟨w.heap.size, 1, none⟩ = some (.int .i64 a) from ((hP1.below hW hP1.lt).cell 1).trans rfl)
      have c2 := fun W (hW : Below w9.heap.size w9 W) => (show W.cell? ⟨w.heap.size, 2, none⟩ = some (.int .i64 b) from ((hP1.below hW hP1.lt).cell 2).trans rfl)
      have c3 := fun W (hW : Below w9.heap.size w9 W) => (show W.cell? ⟨w.heap.size, 3, none⟩ = some (.int .i64 n) from ((hP1.below hW hP1.lt).cell 3).trans rfl)
      have c4 := fun W (hW : Below w9.heap.size w9 W) => (show W.cell? ⟨w.heap.size, 4, none⟩ = some (.string ⟨s.toArray⟩) from ((hP1.below hW hP1.lt).cell 4).trans rfl)
      have c5 := fun W (hW : Below w9.heap.size w9 W) => (show W.cell? ⟨w.heap.size, 5, none⟩ = some (.string ⟨t.toArray⟩) from ((hP1.below hW hP1.lt).cell 5).trans rfl)
      have c6 := fun W (hW : Below w9.heap.size w9 W) => (show W.cell? ⟨w.heap.size, 6, none⟩ = some (.string ⟨u.toArray⟩) from ((hP1.below hW hP1.lt).cell 6).trans rfl)
      iterate 5 (refine wpOrd_take (o := ⟨_, _, _, _, _, _⟩) (v := ?_) rfl rfl ?_ ?_; rotate_left; (focus (intro W hW; go_simp; first | done | with_reducible rfl)); simp only [Act.put, List.setIfInBounds_toArray, List.set_cons_zero, List.set_cons_succ])
      clear c0 c1 c2 c3 c4 c5 c6
      refine wpOrd_exec (o := ⟨_, _, _, _, _, _⟩) rfl rfl (fun K hK => ?_)
      go_simp
      (with_reducible refine (HSH.out _ (hM.keep B1)).mono ?_)
      rintro e w10 ⟨rfl, hb⟩
      have B1 := bel_step B1 hb
      have hP1 := hP1.below hb hP1.lt
      go_wp2_with fail
      refine hK _ _ hb ?_
      clear hK K hb
      refine wpOrd_exec (o := ⟨_, _, _, _, _, _⟩) rfl rfl (fun K hK => ?_)
      go_simp
      (with_reducible refine (HRS.out _).mono ?_)
      rintro e w11 ⟨rfl, hb⟩
      have B1 := bel_step B1 hb
      have hP1 := hP1.below hb hP1.lt
      go_wp2_with fail
      refine hK _ _ hb ?_
      clear hK K hb
      iterate 13 (refine wpOrd_take (o := ⟨_, _, _, _, _, _⟩) (v := ?_) rfl rfl ?_ ?_; rotate_left; (focus (intro W hW; go_simp; first | done | with_reducible rfl)); simp only [Act.put, List.setIfInBounds_toArray, List.set_cons_zero, List.set_cons_succ])
      refine wpOrd_nil ?_
      go_wp2_with fail
      go_ret
      exact ⟨rfl, B1⟩
theorem evOK_s {k : Int} (hk : k = 2 ∨ k = 4 ∨ k = 12 ∨ k = 8 ∨ k = 9 ∨ k = 6 ∨ k = 13) (a b n : Int) (t u : List UInt8) : evOK k a b n [115] t u = false := by
  have hs : uS k [115] = [] := by rcases hk with rfl | rfl | rfl | rfl | rfl | rfl | rfl <;> rfl
  unfold evOK sameB
  rw [hs]
  have : (([] : List UInt8) == [115]) = false := by decide
  rw [this]
  simp
theorem evOK_t {k : Int} (hk : k = 2 ∨ k = 4 ∨ k = 12 ∨ k = 8 ∨ k = 9 ∨ k = 6 ∨ k = 13) (a b n : Int) (s u : List UInt8) : evOK k a b n s [116] u = false := by
  have hs : uT k [116] = [] := by rcases hk with rfl | rfl | rfl | rfl | rfl | rfl | rfl <;> rfl
  unfold evOK sameB
  rw [hs]
  have : (([] : List UInt8) == [116]) = false := by decide
  rw [this]
  simp
theorem evOK_14 (a b n : Int) (s t u : List UInt8) : evOK 14 a b n s t u = false := by
  cases h : evOK 14 a b n s t u with
  | false => rfl
  | true =>
    have := evOK_kind h
    omega
set_option maxHeartbeats 32000000 in
theorem eventFields_walk (k a b n : Int) (s t u : List UInt8) (at_ : Int) (m : Int) (w : World) (hM : EvW m w) (ia : in64e a) (ib : in64e b) (in_ : in64e n)
    (ls : s.length ≤ 9223372036854775807) (lt_ : t.length ≤ 9223372036854775807) (lu : u.length ≤ 9223372036854775807) : Calls Tryz.prog 4 #[.agg #[.int .i64 k, .int .i64 a, .int .i64 b, .int .i64 n, .string ⟨s.toArray⟩, .string ⟨t.toArray⟩, .string ⟨u.toArray⟩], .int .i64 at_] w (RetTrue w) := by
  have HL := Lib.hid (fun W h => lives14_any m W h)
  have HP := Lib.hid (fun W => large14_any k a b n s t u W ls lt_ lu)
  simp only [evV] at HP
  have B1 := bel_alloc (Below.refl w.heap.size w) (.cells #[.int .i64 k, .int .i64 a, .int .i64 b, .int .i64 n, .string ⟨s.toArray⟩, .string ⟨t.toArray⟩, .string ⟨u.toArray⟩] 23)
  have hP1 := Blk.new w 23 #[.int .i64 k, .int .i64 a, .int .i64 b, .int .i64 n, .string ⟨s.toArray⟩, .string ⟨t.toArray⟩, .string ⟨u.toArray⟩]
  rcases large_cases s t u with hlp | ⟨hlp, l1, l2, l3⟩
  · rw [hlp] at HP
    clear hlp
    go_enter Tryz.func4, Tryz.ntmps4
    have z0 := hP1.cell 0
    have z1 := hP1.cell 1
    have z2 := hP1.cell 2
    have z3 := hP1.cell 3
    have z4 := hP1.cell 4
    have z5 := hP1.cell 5
    have z6 := hP1.cell 6
    simp at z0 z1 z2 z3 z4 z5 z6
    go_wp2_with fail
    (with_reducible refine (HP.out _).mono ?_)
    rintro e w1 ⟨rfl, hb⟩
    have B1 := bel_step B1 hb
    have hP1 := hP1.below hb hP1.lt
    clear hb
    clear z0 z1 z2 z3 z4 z5 z6
    go_wp2_with fail
    (with_reducible refine (HL.out _ (hM.keep B1)).mono ?_)
    rintro e w2 ⟨rfl, hb⟩
    have B1 := bel_step B1 hb
    have hP1 := hP1.below hb hP1.lt
    clear hb
    go_wp2_with fail
    go_ret
    exact ⟨rfl, B1⟩
  rw [hlp] at HP
  clear hlp
  have HRC := Lib.hid (fun W => refCheck_any k a b n s t u W (by omega) (by omega) (by omega))
  have HCK := Lib.hid (fun W => check14_any k a b n s t u W (by omega) (by omega) (by omega))
  have HCS := Lib.hid (fun (hk : k = 2 ∨ k = 4 ∨ k = 12 ∨ k = 8 ∨ k = 9 ∨ k = 6 ∨ k = 13) W => by
    have := check14_any k a b n [115] [] u W (by decide) (by decide) (by omega)
    rw [evOK_s hk] at this
    simp only [Bool.false_eq_true, if_false, evV] at this
    exact this)
  have HCT := Lib.hid (fun (hk : k = 2 ∨ k = 4 ∨ k = 12 ∨ k = 8 ∨ k = 9 ∨ k = 6 ∨ k = 13) W => by
    have := check14_any k a b n [] [116] u W (by decide) (by decide) (by omega)
    rw [evOK_t hk] at this
    simp only [Bool.false_eq_true, if_false, evV] at this
    exact this)
  have HC14 := Lib.hid (fun W => by
    have := check14_any 14 a b n s t u W (by omega) (by omega) (by omega)
    rw [evOK_14] at this
    simp only [Bool.false_eq_true, if_false, evV] at this
    exact this)
  simp only [evV] at HRC HCK
  cases hok : evOK k a b n s t u with
  | false =>
    rw [hok] at HRC
    clear hok
    go_enter Tryz.func4, Tryz.ntmps4
    have z0 := hP1.cell 0
    have z1 := hP1.cell 1
    have z2 := hP1.cell 2
    have z3 := hP1.cell 3
    have z4 := hP1.cell 4
    have z5 := hP1.cell 5
    have z6 := hP1.cell 6
    simp at z0 z1 z2 z3 z4 z5 z6
    go_wp2_with fail
    (with_reducible refine (HP.out _).mono ?_)
    rintro e w1 ⟨rfl, hb⟩
    have B1 := bel_step B1 hb
    have hP1 := hP1.below hb hP1.lt
    clear hb
    clear z0 z1 z2 z3 z4 z5 z6
    have z0 := hP1.cell 0
    have z1 := hP1.cell 1
    have z2 := hP1.cell 2
    have z3 := hP1.cell 3
    have z4 := hP1.cell 4
    have z5 := hP1.cell 5
    have z6 := hP1.cell 6
    simp at z0 z1 z2 z3 z4 z5 z6
    go_wp2_with fail
    (with_reducible refine (HRC.out _).mono ?_)
    rintro e w2 ⟨rfl, hb⟩
    have B1 := bel_step B1 hb
    have hP1 := hP1.below hb hP1.lt
    clear hb
    clear z0 z1 z2 z3 z4 z5 z6
    go_wp2_with fail
    (with_reducible refine (HL.out _ (hM.keep B1)).mono ?_)
    rintro e w3 ⟨rfl, hb⟩
    have B1 := bel_step B1 hb
    have hP1 := hP1.below hb hP1.lt
    clear hb
    go_wp2_with fail
    go_ret
    exact ⟨rfl, B1⟩
  | true =>
    have hk := evOK_kind hok
    rw [hok] at HRC HCK
    simp only [if_true] at HCK
    clear hok ia ib in_ ls lt_ lu
    by_cases hset : k = 2 ∨ k = 4 ∨ k = 12 ∨ k = 8 ∨ k = 9 ∨ k = 6 ∨ k = 13
    · have HCS2 := Lib.hid (HCS.out hset)
      have HCT2 := Lib.hid (HCT.out hset)
      clear HCS HCT
      by_cases hat : at_ = 0
      · subst hat
        rcases hset with rfl | rfl | rfl | rfl | rfl | rfl | rfl
        · go_enter Tryz.func4, Tryz.ntmps4
          have z0 := hP1.cell 0
          have z1 := hP1.cell 1
          have z2 := hP1.cell 2
          have z3 := hP1.cell 3
          have z4 := hP1.cell 4
          have z5 := hP1.cell 5
          have z6 := hP1.cell 6
          simp at z0 z1 z2 z3 z4 z5 z6
          go_wp2_with fail
          (with_reducible refine (HP.out _).mono ?_)
          rintro e w1 ⟨rfl, hb⟩
          have B1 := bel_step B1 hb
          have hP1 := hP1.below hb hP1.lt
          clear hb
          clear z0 z1 z2 z3 z4 z5 z6
          have z0 := hP1.cell 0
          have z1 := hP1.cell 1
          have z2 := hP1.cell 2
          have z3 := hP1.cell 3
          have z4 := hP1.cell 4
          have z5 := hP1.cell 5
          have z6 := hP1.cell 6
          simp at z0 z1 z2 z3 z4 z5 z6
          go_wp2_with fail
          (with_reducible refine (HRC.out _).mono ?_)
          rintro e w2 ⟨rfl, hb⟩
          have B1 := bel_step B1 hb
          have hP1 := hP1.below hb hP1.lt
          clear hb
          clear z0 z1 z2 z3 z4 z5 z6
          have z0 := hP1.cell 0
          have z1 := hP1.cell 1
          have z2 := hP1.cell 2
          have z3 := hP1.cell 3
          have z4 := hP1.cell 4
          have z5 := hP1.cell 5
          have z6 := hP1.cell 6
          simp at z0 z1 z2 z3 z4 z5 z6
          have y0 := fun o => (hP1.alloc o).cell 0
          simp at y0
          go_wp2_with fail
          clear z0 z1 z2 z3 z4 z5 z6 y0
          have B1 := bel_alloc B1 (.cells #[.int .i64 2, .int .i64 a, .int .i64 b, .int .i64 n, .string ⟨#[115]⟩, .string ⟨#[]⟩, .string ⟨u.toArray⟩] 23)
          have hP1 := hP1.alloc (.cells #[.int .i64 2, .int .i64 a, .int .i64 b, .int .i64 n, .string ⟨#[115]⟩, .string ⟨#[]⟩, .string ⟨u.toArray⟩] 23)
          have hX1 := Blk.new w2 23 #[.int .i64 2, .int .i64 a, .int .i64 b, .int .i64 n, .string ⟨#[115]⟩, .string ⟨#[]⟩, .string ⟨u.toArray⟩]
          (with_reducible refine (HL.out _ (hM.keep B1)).mono ?_)
          rintro e w3 ⟨rfl, hb⟩
          have B1 := bel_step B1 hb
          have hP1 := hP1.below hb hP1.lt
          have hX1 := hX1.below hb hX1.lt
          clear hb
          have z0 := hP1.cell 0
          have z1 := hP1.cell 1
          have z2 := hP1.cell 2
          have z3 := hP1.cell 3
          have z4 := hP1.cell 4
          have z5 := hP1.cell 5
          have z6 := hP1.cell 6
          simp at z0 z1 z2 z3 z4 z5 z6
          go_wp2_with fail
          (with_reducible refine (HCK.out _).mono ?_)
          rintro e w4 ⟨rfl, hb⟩
          have B1 := bel_step B1 hb
          have hX1 := hX1.below hb hX1.lt
          clear hb
          clear z0 z1 z2 z3 z4 z5 z6
          have z0 := hX1.cell 0
          have z1 := hX1.cell 1
          have z2 := hX1.cell 2
          have z3 := hX1.cell 3
          have z4 := hX1.cell 4
          have z5 := hX1.cell 5
          have z6 := hX1.cell 6
          simp at z0 z1 z2 z3 z4 z5 z6
          go_wp2_with fail
          (with_reducible refine (HCS2.out _).mono ?_)
          rintro e w5 ⟨rfl, hb⟩
          have B1 := bel_step B1 hb
          clear hb
          go_wp2_with fail
          go_ret
          exact ⟨rfl, B1⟩
        · go_enter Tryz.func4, Tryz.ntmps4
          have z0 := hP1.cell 0
          have z1 := hP1.cell 1
          have z2 := hP1.cell 2
          have z3 := hP1.cell 3
          have z4 := hP1.cell 4
          have z5 := hP1.cell 5
          have z6 := hP1.cell 6
          simp at z0 z1 z2 z3 z4 z5 z6
          go_wp2_with fail
          (with_reducible refine (HP.out _).mono ?_)
          rintro e w1 ⟨rfl, hb⟩
          have B1 := bel_step B1 hb
          have hP1 := hP1.below hb hP1.lt
          clear hb
          clear z0 z1 z2 z3 z4 z5 z6
          have z0 := hP1.cell 0
          have z1 := hP1.cell 1
          have z2 := hP1.cell 2
          have z3 := hP1.cell 3
          have z4 := hP1.cell 4
          have z5 := hP1.cell 5
          have z6 := hP1.cell 6
          simp at z0 z1 z2 z3 z4 z5 z6
          go_wp2_with fail
          (with_reducible refine (HRC.out _).mono ?_)
          rintro e w2 ⟨rfl, hb⟩
          have B1 := bel_step B1 hb
          have hP1 := hP1.below hb hP1.lt
          clear hb
          clear z0 z1 z2 z3 z4 z5 z6
          have z0 := hP1.cell 0
          have z1 := hP1.cell 1
          have z2 := hP1.cell 2
          have z3 := hP1.cell 3
          have z4 := hP1.cell 4
          have z5 := hP1.cell 5
          have z6 := hP1.cell 6
          simp at z0 z1 z2 z3 z4 z5 z6
          have y0 := fun o => (hP1.alloc o).cell 0
          simp at y0
          go_wp2_with fail
          clear z0 z1 z2 z3 z4 z5 z6 y0
          have B1 := bel_alloc B1 (.cells #[.int .i64 4, .int .i64 a, .int .i64 b, .int .i64 n, .string ⟨#[115]⟩, .string ⟨#[]⟩, .string ⟨u.toArray⟩] 23)
          have hP1 := hP1.alloc (.cells #[.int .i64 4, .int .i64 a, .int .i64 b, .int .i64 n, .string ⟨#[115]⟩, .string ⟨#[]⟩, .string ⟨u.toArray⟩] 23)
          have hX1 := Blk.new w2 23 #[.int .i64 4, .int .i64 a, .int .i64 b, .int .i64 n, .string ⟨#[115]⟩, .string ⟨#[]⟩, .string ⟨u.toArray⟩]
          (with_reducible refine (HL.out _ (hM.keep B1)).mono ?_)
          rintro e w3 ⟨rfl, hb⟩
          have B1 := bel_step B1 hb
          have hP1 := hP1.below hb hP1.lt
          have hX1 := hX1.below hb hX1.lt
          clear hb
          have z0 := hP1.cell 0
          have z1 := hP1.cell 1
          have z2 := hP1.cell 2
          have z3 := hP1.cell 3
          have z4 := hP1.cell 4
          have z5 := hP1.cell 5
          have z6 := hP1.cell 6
          simp at z0 z1 z2 z3 z4 z5 z6
          go_wp2_with fail
          (with_reducible refine (HCK.out _).mono ?_)
          rintro e w4 ⟨rfl, hb⟩
          have B1 := bel_step B1 hb
          have hX1 := hX1.below hb hX1.lt
          clear hb
          clear z0 z1 z2 z3 z4 z5 z6
          have z0 := hX1.cell 0
          have z1 := hX1.cell 1
          have z2 := hX1.cell 2
          have z3 := hX1.cell 3
          have z4 := hX1.cell 4
          have z5 := hX1.cell 5
          have z6 := hX1.cell 6
          simp at z0 z1 z2 z3 z4 z5 z6
          go_wp2_with fail
          (with_reducible refine (HCS2.out _).mono ?_)
          rintro e w5 ⟨rfl, hb⟩
          have B1 := bel_step B1 hb
          clear hb
          go_wp2_with fail
          go_ret
          exact ⟨rfl, B1⟩
        · go_enter Tryz.func4, Tryz.ntmps4
          have z0 := hP1.cell 0
          have z1 := hP1.cell 1
          have z2 := hP1.cell 2
          have z3 := hP1.cell 3
          have z4 := hP1.cell 4
          have z5 := hP1.cell 5
          have z6 := hP1.cell 6
          simp at z0 z1 z2 z3 z4 z5 z6
          go_wp2_with fail
          (with_reducible refine (HP.out _).mono ?_)
          rintro e w1 ⟨rfl, hb⟩
          have B1 := bel_step B1 hb
          have hP1 := hP1.below hb hP1.lt
          clear hb
          clear z0 z1 z2 z3 z4 z5 z6
          have z0 := hP1.cell 0
          have z1 := hP1.cell 1
          have z2 := hP1.cell 2
          have z3 := hP1.cell 3
          have z4 := hP1.cell 4
          have z5 := hP1.cell 5
          have z6 := hP1.cell 6
          simp at z0 z1 z2 z3 z4 z5 z6
          go_wp2_with fail
          (with_reducible refine (HRC.out _).mono ?_)
          rintro e w2 ⟨rfl, hb⟩
          have B1 := bel_step B1 hb
          have hP1 := hP1.below hb hP1.lt
          clear hb
          clear z0 z1 z2 z3 z4 z5 z6
          have z0 := hP1.cell 0
          have z1 := hP1.cell 1
          have z2 := hP1.cell 2
          have z3 := hP1.cell 3
          have z4 := hP1.cell 4
          have z5 := hP1.cell 5
          have z6 := hP1.cell 6
          simp at z0 z1 z2 z3 z4 z5 z6
          have y0 := fun o => (hP1.alloc o).cell 0
          simp at y0
          go_wp2_with fail
          clear z0 z1 z2 z3 z4 z5 z6 y0
          have B1 := bel_alloc B1 (.cells #[.int .i64 12, .int .i64 a, .int .i64 b, .int .i64 n, .string ⟨#[115]⟩, .string ⟨#[]⟩, .string ⟨u.toArray⟩] 23)
          have hP1 := hP1.alloc (.cells #[.int .i64 12, .int .i64 a, .int .i64 b, .int .i64 n, .string ⟨#[115]⟩, .string ⟨#[]⟩, .string ⟨u.toArray⟩] 23)
          have hX1 := Blk.new w2 23 #[.int .i64 12, .int .i64 a, .int .i64 b, .int .i64 n, .string ⟨#[115]⟩, .string ⟨#[]⟩, .string ⟨u.toArray⟩]
          (with_reducible refine (HL.out _ (hM.keep B1)).mono ?_)
          rintro e w3 ⟨rfl, hb⟩
          have B1 := bel_step B1 hb
          have hP1 := hP1.below hb hP1.lt
          have hX1 := hX1.below hb hX1.lt
          clear hb
          have z0 := hP1.cell 0
          have z1 := hP1.cell 1
          have z2 := hP1.cell 2
          have z3 := hP1.cell 3
          have z4 := hP1.cell 4
          have z5 := hP1.cell 5
          have z6 := hP1.cell 6
          simp at z0 z1 z2 z3 z4 z5 z6
          go_wp2_with fail
          (with_reducible refine (HCK.out _).mono ?_)
          rintro e w4 ⟨rfl, hb⟩
          have B1 := bel_step B1 hb
          have hX1 := hX1.below hb hX1.lt
          clear hb
          clear z0 z1 z2 z3 z4 z5 z6
          have z0 := hX1.cell 0
          have z1 := hX1.cell 1
          have z2 := hX1.cell 2
          have z3 := hX1.cell 3
          have z4 := hX1.cell 4
          have z5 := hX1.cell 5
          have z6 := hX1.cell 6
          simp at z0 z1 z2 z3 z4 z5 z6
          go_wp2_with fail
          (with_reducible refine (HCS2.out _).mono ?_)
          rintro e w5 ⟨rfl, hb⟩
          have B1 := bel_step B1 hb
          clear hb
          go_wp2_with fail
          go_ret
          exact ⟨rfl, B1⟩
        · go_enter Tryz.func4, Tryz.ntmps4
          have z0 := hP1.cell 0
          have z1 := hP1.cell 1
          have z2 := hP1.cell 2
          have z3 := hP1.cell 3
          have z4 := hP1.cell 4
          have z5 := hP1.cell 5
          have z6 := hP1.cell 6
          simp at z0 z1 z2 z3 z4 z5 z6
          go_wp2_with fail
          (with_reducible refine (HP.out _).mono ?_)
          rintro e w1 ⟨rfl, hb⟩
          have B1 := bel_step B1 hb
          have hP1 := hP1.below hb hP1.lt
          clear hb
          clear z0 z1 z2 z3 z4 z5 z6
          have z0 := hP1.cell 0
          have z1 := hP1.cell 1
          have z2 := hP1.cell 2
          have z3 := hP1.cell 3
          have z4 := hP1.cell 4
          have z5 := hP1.cell 5
          have z6 := hP1.cell 6
          simp at z0 z1 z2 z3 z4 z5 z6
          go_wp2_with fail
          (with_reducible refine (HRC.out _).mono ?_)
          rintro e w2 ⟨rfl, hb⟩
          have B1 := bel_step B1 hb
          have hP1 := hP1.below hb hP1.lt
          clear hb
          clear z0 z1 z2 z3 z4 z5 z6
          have z0 := hP1.cell 0
          have z1 := hP1.cell 1
          have z2 := hP1.cell 2
          have z3 := hP1.cell 3
          have z4 := hP1.cell 4
          have z5 := hP1.cell 5
          have z6 := hP1.cell 6
          simp at z0 z1 z2 z3 z4 z5 z6
          have y0 := fun o => (hP1.alloc o).cell 0
          simp at y0
          go_wp2_with fail
          clear z0 z1 z2 z3 z4 z5 z6 y0
          have B1 := bel_alloc B1 (.cells #[.int .i64 8, .int .i64 a, .int .i64 b, .int .i64 n, .string ⟨#[115]⟩, .string ⟨#[]⟩, .string ⟨u.toArray⟩] 23)
          have hP1 := hP1.alloc (.cells #[.int .i64 8, .int .i64 a, .int .i64 b, .int .i64 n, .string ⟨#[115]⟩, .string ⟨#[]⟩, .string ⟨u.toArray⟩] 23)
          have hX1 := Blk.new w2 23 #[.int .i64 8, .int .i64 a, .int .i64 b, .int .i64 n, .string ⟨#[115]⟩, .string ⟨#[]⟩, .string ⟨u.toArray⟩]
          (with_reducible refine (HL.out _ (hM.keep B1)).mono ?_)
          rintro e w3 ⟨rfl, hb⟩
          have B1 := bel_step B1 hb
          have hP1 := hP1.below hb hP1.lt
          have hX1 := hX1.below hb hX1.lt
          clear hb
          have z0 := hP1.cell 0
          have z1 := hP1.cell 1
          have z2 := hP1.cell 2
          have z3 := hP1.cell 3
          have z4 := hP1.cell 4
          have z5 := hP1.cell 5
          have z6 := hP1.cell 6
          simp at z0 z1 z2 z3 z4 z5 z6
          go_wp2_with fail
          (with_reducible refine (HCK.out _).mono ?_)
          rintro e w4 ⟨rfl, hb⟩
          have B1 := bel_step B1 hb
          have hX1 := hX1.below hb hX1.lt
          clear hb
          clear z0 z1 z2 z3 z4 z5 z6
          have z0 := hX1.cell 0
          have z1 := hX1.cell 1
          have z2 := hX1.cell 2
          have z3 := hX1.cell 3
          have z4 := hX1.cell 4
          have z5 := hX1.cell 5
          have z6 := hX1.cell 6
          simp at z0 z1 z2 z3 z4 z5 z6
          go_wp2_with fail
          (with_reducible refine (HCS2.out _).mono ?_)
          rintro e w5 ⟨rfl, hb⟩
          have B1 := bel_step B1 hb
          clear hb
          go_wp2_with fail
          go_ret
          exact ⟨rfl, B1⟩
        · go_enter Tryz.func4, Tryz.ntmps4
          have z0 := hP1.cell 0
          have z1 := hP1.cell 1
          have z2 := hP1.cell 2
          have z3 := hP1.cell 3
          have z4 := hP1.cell 4
          have z5 := hP1.cell 5
          have z6 := hP1.cell 6
          simp at z0 z1 z2 z3 z4 z5 z6
          go_wp2_with fail
          (with_reducible refine (HP.out _).mono ?_)
          rintro e w1 ⟨rfl, hb⟩
          have B1 := bel_step B1 hb
          have hP1 := hP1.below hb hP1.lt
          clear hb
          clear z0 z1 z2 z3 z4 z5 z6
          have z0 := hP1.cell 0
          have z1 := hP1.cell 1
          have z2 := hP1.cell 2
          have z3 := hP1.cell 3
          have z4 := hP1.cell 4
          have z5 := hP1.cell 5
          have z6 := hP1.cell 6
          simp at z0 z1 z2 z3 z4 z5 z6
          go_wp2_with fail
          (with_reducible refine (HRC.out _).mono ?_)
          rintro e w2 ⟨rfl, hb⟩
          have B1 := bel_step B1 hb
          have hP1 := hP1.below hb hP1.lt
          clear hb
          clear z0 z1 z2 z3 z4 z5 z6
          have z0 := hP1.cell 0
          have z1 := hP1.cell 1
          have z2 := hP1.cell 2
          have z3 := hP1.cell 3
          have z4 := hP1.cell 4
          have z5 := hP1.cell 5
          have z6 := hP1.cell 6
          simp at z0 z1 z2 z3 z4 z5 z6
          have y0 := fun o => (hP1.alloc o).cell 0
          simp at y0
          go_wp2_with fail
          clear z0 z1 z2 z3 z4 z5 z6 y0
          have B1 := bel_alloc B1 (.cells #[.int .i64 9, .int .i64 a, .int .i64 b, .int .i64 n, .string ⟨#[115]⟩, .string ⟨#[]⟩, .string ⟨u.toArray⟩] 23)
          have hP1 := hP1.alloc (.cells #[.int .i64 9, .int .i64 a, .int .i64 b, .int .i64 n, .string ⟨#[115]⟩, .string ⟨#[]⟩, .string ⟨u.toArray⟩] 23)
          have hX1 := Blk.new w2 23 #[.int .i64 9, .int .i64 a, .int .i64 b, .int .i64 n, .string ⟨#[115]⟩, .string ⟨#[]⟩, .string ⟨u.toArray⟩]
          (with_reducible refine (HL.out _ (hM.keep B1)).mono ?_)
          rintro e w3 ⟨rfl, hb⟩
          have B1 := bel_step B1 hb
          have hP1 := hP1.below hb hP1.lt
          have hX1 := hX1.below hb hX1.lt
          clear hb
          have z0 := hP1.cell 0
          have z1 := hP1.cell 1
          have z2 := hP1.cell 2
          have z3 := hP1.cell 3
          have z4 := hP1.cell 4
          have z5 := hP1.cell 5
          have z6 := hP1.cell 6
          simp at z0 z1 z2 z3 z4 z5 z6
          go_wp2_with fail
          (with_reducible refine (HCK.out _).mono ?_)
          rintro e w4 ⟨rfl, hb⟩
          have B1 := bel_step B1 hb
          have hX1 := hX1.below hb hX1.lt
          clear hb
          clear z0 z1 z2 z3 z4 z5 z6
          have z0 := hX1.cell 0
          have z1 := hX1.cell 1
          have z2 := hX1.cell 2
          have z3 := hX1.cell 3
          have z4 := hX1.cell 4
          have z5 := hX1.cell 5
          have z6 := hX1.cell 6
          simp at z0 z1 z2 z3 z4 z5 z6
          go_wp2_with fail
          (with_reducible refine (HCS2.out _).mono ?_)
          rintro e w5 ⟨rfl, hb⟩
          have B1 := bel_step B1 hb
          clear hb
          go_wp2_with fail
          go_ret
          exact ⟨rfl, B1⟩
        · go_enter Tryz.func4, Tryz.ntmps4
          have z0 := hP1.cell 0
          have z1 := hP1.cell 1
          have z2 := hP1.cell 2
          have z3 := hP1.cell 3
          have z4 := hP1.cell 4
          have z5 := hP1.cell 5
          have z6 := hP1.cell 6
          simp at z0 z1 z2 z3 z4 z5 z6
          go_wp2_with fail
          (with_reducible refine (HP.out _).mono ?_)
          rintro e w1 ⟨rfl, hb⟩
          have B1 := bel_step B1 hb
          have hP1 := hP1.below hb hP1.lt
          clear hb
          clear z0 z1 z2 z3 z4 z5 z6
          have z0 := hP1.cell 0
          have z1 := hP1.cell 1
          have z2 := hP1.cell 2
          have z3 := hP1.cell 3
          have z4 := hP1.cell 4
          have z5 := hP1.cell 5
          have z6 := hP1.cell 6
          simp at z0 z1 z2 z3 z4 z5 z6
          go_wp2_with fail
          (with_reducible refine (HRC.out _).mono ?_)
          rintro e w2 ⟨rfl, hb⟩
          have B1 := bel_step B1 hb
          have hP1 := hP1.below hb hP1.lt
          clear hb
          clear z0 z1 z2 z3 z4 z5 z6
          have z0 := hP1.cell 0
          have z1 := hP1.cell 1
          have z2 := hP1.cell 2
          have z3 := hP1.cell 3
          have z4 := hP1.cell 4
          have z5 := hP1.cell 5
          have z6 := hP1.cell 6
          simp at z0 z1 z2 z3 z4 z5 z6
          have y0 := fun o => (hP1.alloc o).cell 0
          simp at y0
          go_wp2_with fail
          clear z0 z1 z2 z3 z4 z5 z6 y0
          have B1 := bel_alloc B1 (.cells #[.int .i64 6, .int .i64 a, .int .i64 b, .int .i64 n, .string ⟨#[115]⟩, .string ⟨#[]⟩, .string ⟨u.toArray⟩] 23)
          have hP1 := hP1.alloc (.cells #[.int .i64 6, .int .i64 a, .int .i64 b, .int .i64 n, .string ⟨#[115]⟩, .string ⟨#[]⟩, .string ⟨u.toArray⟩] 23)
          have hX1 := Blk.new w2 23 #[.int .i64 6, .int .i64 a, .int .i64 b, .int .i64 n, .string ⟨#[115]⟩, .string ⟨#[]⟩, .string ⟨u.toArray⟩]
          (with_reducible refine (HL.out _ (hM.keep B1)).mono ?_)
          rintro e w3 ⟨rfl, hb⟩
          have B1 := bel_step B1 hb
          have hP1 := hP1.below hb hP1.lt
          have hX1 := hX1.below hb hX1.lt
          clear hb
          have z0 := hP1.cell 0
          have z1 := hP1.cell 1
          have z2 := hP1.cell 2
          have z3 := hP1.cell 3
          have z4 := hP1.cell 4
          have z5 := hP1.cell 5
          have z6 := hP1.cell 6
          simp at z0 z1 z2 z3 z4 z5 z6
          go_wp2_with fail
          (with_reducible refine (HCK.out _).mono ?_)
          rintro e w4 ⟨rfl, hb⟩
          have B1 := bel_step B1 hb
          have hX1 := hX1.below hb hX1.lt
          clear hb
          clear z0 z1 z2 z3 z4 z5 z6
          have z0 := hX1.cell 0
          have z1 := hX1.cell 1
          have z2 := hX1.cell 2
          have z3 := hX1.cell 3
          have z4 := hX1.cell 4
          have z5 := hX1.cell 5
          have z6 := hX1.cell 6
          simp at z0 z1 z2 z3 z4 z5 z6
          go_wp2_with fail
          (with_reducible refine (HCS2.out _).mono ?_)
          rintro e w5 ⟨rfl, hb⟩
          have B1 := bel_step B1 hb
          clear hb
          go_wp2_with fail
          go_ret
          exact ⟨rfl, B1⟩
        · go_enter Tryz.func4, Tryz.ntmps4
          have z0 := hP1.cell 0
          have z1 := hP1.cell 1
          have z2 := hP1.cell 2
          have z3 := hP1.cell 3
          have z4 := hP1.cell 4
          have z5 := hP1.cell 5
          have z6 := hP1.cell 6
          simp at z0 z1 z2 z3 z4 z5 z6
          go_wp2_with fail
          (with_reducible refine (HP.out _).mono ?_)
          rintro e w1 ⟨rfl, hb⟩
          have B1 := bel_step B1 hb
          have hP1 := hP1.below hb hP1.lt
          clear hb
          clear z0 z1 z2 z3 z4 z5 z6
          have z0 := hP1.cell 0
          have z1 := hP1.cell 1
          have z2 := hP1.cell 2
          have z3 := hP1.cell 3
          have z4 := hP1.cell 4
          have z5 := hP1.cell 5
          have z6 := hP1.cell 6
          simp at z0 z1 z2 z3 z4 z5 z6
          go_wp2_with fail
          (with_reducible refine (HRC.out _).mono ?_)
          rintro e w2 ⟨rfl, hb⟩
          have B1 := bel_step B1 hb
          have hP1 := hP1.below hb hP1.lt
          clear hb
          clear z0 z1 z2 z3 z4 z5 z6
          have z0 := hP1.cell 0
          have z1 := hP1.cell 1
          have z2 := hP1.cell 2
          have z3 := hP1.cell 3
          have z4 := hP1.cell 4
          have z5 := hP1.cell 5
          have z6 := hP1.cell 6
          simp at z0 z1 z2 z3 z4 z5 z6
          have y0 := fun o => (hP1.alloc o).cell 0
          simp at y0
          go_wp2_with fail
          clear z0 z1 z2 z3 z4 z5 z6 y0
          have B1 := bel_alloc B1 (.cells #[.int .i64 13, .int .i64 a, .int .i64 b, .int .i64 n, .string ⟨#[115]⟩, .string ⟨#[]⟩, .string ⟨u.toArray⟩] 23)
          have hP1 := hP1.alloc (.cells #[.int .i64 13, .int .i64 a, .int .i64 b, .int .i64 n, .string ⟨#[115]⟩, .string ⟨#[]⟩, .string ⟨u.toArray⟩] 23)
          have hX1 := Blk.new w2 23 #[.int .i64 13, .int .i64 a, .int .i64 b, .int .i64 n, .string ⟨#[115]⟩, .string ⟨#[]⟩, .string ⟨u.toArray⟩]
          (with_reducible refine (HL.out _ (hM.keep B1)).mono ?_)
          rintro e w3 ⟨rfl, hb⟩
          have B1 := bel_step B1 hb
          have hP1 := hP1.below hb hP1.lt
          have hX1 := hX1.below hb hX1.lt
          clear hb
          have z0 := hP1.cell 0
          have z1 := hP1.cell 1
          have z2 := hP1.cell 2
          have z3 := hP1.cell 3
          have z4 := hP1.cell 4
          have z5 := hP1.cell 5
          have z6 := hP1.cell 6
          simp at z0 z1 z2 z3 z4 z5 z6
          go_wp2_with fail
          (with_reducible refine (HCK.out _).mono ?_)
          rintro e w4 ⟨rfl, hb⟩
          have B1 := bel_step B1 hb
          have hX1 := hX1.below hb hX1.lt
          clear hb
          clear z0 z1 z2 z3 z4 z5 z6
          have z0 := hX1.cell 0
          have z1 := hX1.cell 1
          have z2 := hX1.cell 2
          have z3 := hX1.cell 3
          have z4 := hX1.cell 4
          have z5 := hX1.cell 5
          have z6 := hX1.cell 6
          simp at z0 z1 z2 z3 z4 z5 z6
          go_wp2_with fail
          (with_reducible refine (HCS2.out _).mono ?_)
          rintro e w5 ⟨rfl, hb⟩
          have B1 := bel_step B1 hb
          clear hb
          go_wp2_with fail
          go_ret
          exact ⟨rfl, B1⟩
      · have hat2 : (at_ == 0) = false := by simpa using hat
        rcases hset with rfl | rfl | rfl | rfl | rfl | rfl | rfl
        · go_enter Tryz.func4, Tryz.ntmps4
          have z0 := hP1.cell 0
          have z1 := hP1.cell 1
          have z2 := hP1.cell 2
          have z3 := hP1.cell 3
          have z4 := hP1.cell 4
          have z5 := hP1.cell 5
          have z6 := hP1.cell 6
          simp at z0 z1 z2 z3 z4 z5 z6
          go_wp2_with fail
          (with_reducible refine (HP.out _).mono ?_)
          rintro e w1 ⟨rfl, hb⟩
          have B1 := bel_step B1 hb
          have hP1 := hP1.below hb hP1.lt
          clear hb
          clear z0 z1 z2 z3 z4 z5 z6
          have z0 := hP1.cell 0
          have z1 := hP1.cell 1
          have z2 := hP1.cell 2
          have z3 := hP1.cell 3
          have z4 := hP1.cell 4
          have z5 := hP1.cell 5
          have z6 := hP1.cell 6
          simp at z0 z1 z2 z3 z4 z5 z6
          go_wp2_with fail
          (with_reducible refine (HRC.out _).mono ?_)
          rintro e w2 ⟨rfl, hb⟩
          have B1 := bel_step B1 hb
          have hP1 := hP1.below hb hP1.lt
          clear hb
          clear z0 z1 z2 z3 z4 z5 z6
          have z0 := hP1.cell 0
          have z1 := hP1.cell 1
          have z2 := hP1.cell 2
          have z3 := hP1.cell 3
          have z4 := hP1.cell 4
          have z5 := hP1.cell 5
          have z6 := hP1.cell 6
          simp at z0 z1 z2 z3 z4 z5 z6
          have y0 := fun o => (hP1.alloc o).cell 0
          simp at y0
          go_wp2_with fail
          clear z0 z1 z2 z3 z4 z5 z6 y0
          have B1 := bel_alloc B1 (.cells #[.int .i64 2, .int .i64 a, .int .i64 b, .int .i64 n, .string ⟨#[]⟩, .string ⟨#[116]⟩, .string ⟨u.toArray⟩] 23)
          have hP1 := hP1.alloc (.cells #[.int .i64 2, .int .i64 a, .int .i64 b, .int .i64 n, .string ⟨#[]⟩, .string ⟨#[116]⟩, .string ⟨u.toArray⟩] 23)
          have hX1 := Blk.new w2 23 #[.int .i64 2, .int .i64 a, .int .i64 b, .int .i64 n, .string ⟨#[]⟩, .string ⟨#[116]⟩, .string ⟨u.toArray⟩]
          (with_reducible refine (HL.out _ (hM.keep B1)).mono ?_)
          rintro e w3 ⟨rfl, hb⟩
          have B1 := bel_step B1 hb
          have hP1 := hP1.below hb hP1.lt
          have hX1 := hX1.below hb hX1.lt
          clear hb
          have z0 := hP1.cell 0
          have z1 := hP1.cell 1
          have z2 := hP1.cell 2
          have z3 := hP1.cell 3
          have z4 := hP1.cell 4
          have z5 := hP1.cell 5
          have z6 := hP1.cell 6
          simp at z0 z1 z2 z3 z4 z5 z6
          go_wp2_with fail
          (with_reducible refine (HCK.out _).mono ?_)
          rintro e w4 ⟨rfl, hb⟩
          have B1 := bel_step B1 hb
          have hX1 := hX1.below hb hX1.lt
          clear hb
          clear z0 z1 z2 z3 z4 z5 z6
          have z0 := hX1.cell 0
          have z1 := hX1.cell 1
          have z2 := hX1.cell 2
          have z3 := hX1.cell 3
          have z4 := hX1.cell 4
          have z5 := hX1.cell 5
          have z6 := hX1.cell 6
          simp at z0 z1 z2 z3 z4 z5 z6
          go_wp2_with fail
          (with_reducible refine (HCT2.out _).mono ?_)
          rintro e w5 ⟨rfl, hb⟩
          have B1 := bel_step B1 hb
          clear hb
          go_wp2_with fail
          go_ret
          exact ⟨rfl, B1⟩
        · go_enter Tryz.func4, Tryz.ntmps4
          have z0 := hP1.cell 0
          have z1 := hP1.cell 1
          have z2 := hP1.cell 2
          have z3 := hP1.cell 3
          have z4 := hP1.cell 4
          have z5 := hP1.cell 5
          have z6 := hP1.cell 6
          simp at z0 z1 z2 z3 z4 z5 z6
          go_wp2_with fail
          (with_reducible refine (HP.out _).mono ?_)
          rintro e w1 ⟨rfl, hb⟩
          have B1 := bel_step B1 hb
          have hP1 := hP1.below hb hP1.lt
          clear hb
          clear z0 z1 z2 z3 z4 z5 z6
          have z0 := hP1.cell 0
          have z1 := hP1.cell 1
          have z2 := hP1.cell 2
          have z3 := hP1.cell 3
          have z4 := hP1.cell 4
          have z5 := hP1.cell 5
          have z6 := hP1.cell 6
          simp at z0 z1 z2 z3 z4 z5 z6
          go_wp2_with fail
          (with_reducible refine (HRC.out _).mono ?_)
          rintro e w2 ⟨rfl, hb⟩
          have B1 := bel_step B1 hb
          have hP1 := hP1.below hb hP1.lt
          clear hb
          clear z0 z1 z2 z3 z4 z5 z6
          have z0 := hP1.cell 0
          have z1 := hP1.cell 1
          have z2 := hP1.cell 2
          have z3 := hP1.cell 3
          have z4 := hP1.cell 4
          have z5 := hP1.cell 5
          have z6 := hP1.cell 6
          simp at z0 z1 z2 z3 z4 z5 z6
          have y0 := fun o => (hP1.alloc o).cell 0
          simp at y0
          go_wp2_with fail
          clear z0 z1 z2 z3 z4 z5 z6 y0
          have B1 := bel_alloc B1 (.cells #[.int .i64 4, .int .i64 a, .int .i64 b, .int .i64 n, .string ⟨#[]⟩, .string ⟨#[116]⟩, .string ⟨u.toArray⟩] 23)
          have hP1 := hP1.alloc (.cells #[.int .i64 4, .int .i64 a, .int .i64 b, .int .i64 n, .string ⟨#[]⟩, .string ⟨#[116]⟩, .string ⟨u.toArray⟩] 23)
          have hX1 := Blk.new w2 23 #[.int .i64 4, .int .i64 a, .int .i64 b, .int .i64 n, .string ⟨#[]⟩, .string ⟨#[116]⟩, .string ⟨u.toArray⟩]
          (with_reducible refine (HL.out _ (hM.keep B1)).mono ?_)
          rintro e w3 ⟨rfl, hb⟩
          have B1 := bel_step B1 hb
          have hP1 := hP1.below hb hP1.lt
          have hX1 := hX1.below hb hX1.lt
          clear hb
          have z0 := hP1.cell 0
          have z1 := hP1.cell 1
          have z2 := hP1.cell 2
          have z3 := hP1.cell 3
          have z4 := hP1.cell 4
          have z5 := hP1.cell 5
          have z6 := hP1.cell 6
          simp at z0 z1 z2 z3 z4 z5 z6
          go_wp2_with fail
          (with_reducible refine (HCK.out _).mono ?_)
          rintro e w4 ⟨rfl, hb⟩
          have B1 := bel_step B1 hb
          have hX1 := hX1.below hb hX1.lt
          clear hb
          clear z0 z1 z2 z3 z4 z5 z6
          have z0 := hX1.cell 0
          have z1 := hX1.cell 1
          have z2 := hX1.cell 2
          have z3 := hX1.cell 3
          have z4 := hX1.cell 4
          have z5 := hX1.cell 5
          have z6 := hX1.cell 6
          simp at z0 z1 z2 z3 z4 z5 z6
          go_wp2_with fail
          (with_reducible refine (HCT2.out _).mono ?_)
          rintro e w5 ⟨rfl, hb⟩
          have B1 := bel_step B1 hb
          clear hb
          go_wp2_with fail
          go_ret
          exact ⟨rfl, B1⟩
        · go_enter Tryz.func4, Tryz.ntmps4
          have z0 := hP1.cell 0
          have z1 := hP1.cell 1
          have z2 := hP1.cell 2
          have z3 := hP1.cell 3
          have z4 := hP1.cell 4
          have z5 := hP1.cell 5
          have z6 := hP1.cell 6
          simp at z0 z1 z2 z3 z4 z5 z6
          go_wp2_with fail
          (with_reducible refine (HP.out _).mono ?_)
          rintro e w1 ⟨rfl, hb⟩
          have B1 := bel_step B1 hb
          have hP1 := hP1.below hb hP1.lt
          clear hb
          clear z0 z1 z2 z3 z4 z5 z6
          have z0 := hP1.cell 0
          have z1 := hP1.cell 1
          have z2 := hP1.cell 2
          have z3 := hP1.cell 3
          have z4 := hP1.cell 4
          have z5 := hP1.cell 5
          have z6 := hP1.cell 6
          simp at z0 z1 z2 z3 z4 z5 z6
          go_wp2_with fail
          (with_reducible refine (HRC.out _).mono ?_)
          rintro e w2 ⟨rfl, hb⟩
          have B1 := bel_step B1 hb
          have hP1 := hP1.below hb hP1.lt
          clear hb
          clear z0 z1 z2 z3 z4 z5 z6
          have z0 := hP1.cell 0
          have z1 := hP1.cell 1
          have z2 := hP1.cell 2
          have z3 := hP1.cell 3
          have z4 := hP1.cell 4
          have z5 := hP1.cell 5
          have z6 := hP1.cell 6
          simp at z0 z1 z2 z3 z4 z5 z6
          have y0 := fun o => (hP1.alloc o).cell 0
          simp at y0
          go_wp2_with fail
          clear z0 z1 z2 z3 z4 z5 z6 y0
          have B1 := bel_alloc B1 (.cells #[.int .i64 12, .int .i64 a, .int .i64 b, .int .i64 n, .string ⟨#[]⟩, .string ⟨#[116]⟩, .string ⟨u.toArray⟩] 23)
          have hP1 := hP1.alloc (.cells #[.int .i64 12, .int .i64 a, .int .i64 b, .int .i64 n, .string ⟨#[]⟩, .string ⟨#[116]⟩, .string ⟨u.toArray⟩] 23)
          have hX1 := Blk.new w2 23 #[.int .i64 12, .int .i64 a, .int .i64 b, .int .i64 n, .string ⟨#[]⟩, .string ⟨#[116]⟩, .string ⟨u.toArray⟩]
          (with_reducible refine (HL.out _ (hM.keep B1)).mono ?_)
          rintro e w3 ⟨rfl, hb⟩
          have B1 := bel_step B1 hb
          have hP1 := hP1.below hb hP1.lt
          have hX1 := hX1.below hb hX1.lt
          clear hb
          have z0 := hP1.cell 0
          have z1 := hP1.cell 1
          have z2 := hP1.cell 2
          have z3 := hP1.cell 3
          have z4 := hP1.cell 4
          have z5 := hP1.cell 5
          have z6 := hP1.cell 6
          simp at z0 z1 z2 z3 z4 z5 z6
          go_wp2_with fail
          (with_reducible refine (HCK.out _).mono ?_)
          rintro e w4 ⟨rfl, hb⟩
          have B1 := bel_step B1 hb
          have hX1 := hX1.below hb hX1.lt
          clear hb
          clear z0 z1 z2 z3 z4 z5 z6
          have z0 := hX1.cell 0
          have z1 := hX1.cell 1
          have z2 := hX1.cell 2
          have z3 := hX1.cell 3
          have z4 := hX1.cell 4
          have z5 := hX1.cell 5
          have z6 := hX1.cell 6
          simp at z0 z1 z2 z3 z4 z5 z6
          go_wp2_with fail
          (with_reducible refine (HCT2.out _).mono ?_)
          rintro e w5 ⟨rfl, hb⟩
          have B1 := bel_step B1 hb
          clear hb
          go_wp2_with fail
          go_ret
          exact ⟨rfl, B1⟩
        · go_enter Tryz.func4, Tryz.ntmps4
          have z0 := hP1.cell 0
          have z1 := hP1.cell 1
          have z2 := hP1.cell 2
          have z3 := hP1.cell 3
          have z4 := hP1.cell 4
          have z5 := hP1.cell 5
          have z6 := hP1.cell 6
          simp at z0 z1 z2 z3 z4 z5 z6
          go_wp2_with fail
          (with_reducible refine (HP.out _).mono ?_)
          rintro e w1 ⟨rfl, hb⟩
          have B1 := bel_step B1 hb
          have hP1 := hP1.below hb hP1.lt
          clear hb
          clear z0 z1 z2 z3 z4 z5 z6
          have z0 := hP1.cell 0
          have z1 := hP1.cell 1
          have z2 := hP1.cell 2
          have z3 := hP1.cell 3
          have z4 := hP1.cell 4
          have z5 := hP1.cell 5
          have z6 := hP1.cell 6
          simp at z0 z1 z2 z3 z4 z5 z6
          go_wp2_with fail
          (with_reducible refine (HRC.out _).mono ?_)
          rintro e w2 ⟨rfl, hb⟩
          have B1 := bel_step B1 hb
          have hP1 := hP1.below hb hP1.lt
          clear hb
          clear z0 z1 z2 z3 z4 z5 z6
          have z0 := hP1.cell 0
          have z1 := hP1.cell 1
          have z2 := hP1.cell 2
          have z3 := hP1.cell 3
          have z4 := hP1.cell 4
          have z5 := hP1.cell 5
          have z6 := hP1.cell 6
          simp at z0 z1 z2 z3 z4 z5 z6
          have y0 := fun o => (hP1.alloc o).cell 0
          simp at y0
          go_wp2_with fail
          clear z0 z1 z2 z3 z4 z5 z6 y0
          have B1 := bel_alloc B1 (.cells #[.int .i64 8, .int .i64 a, .int .i64 b, .int .i64 n, .string ⟨#[]⟩, .string ⟨#[116]⟩, .string ⟨u.toArray⟩] 23)
          have hP1 := hP1.alloc (.cells #[.int .i64 8, .int .i64 a, .int .i64 b, .int .i64 n, .string ⟨#[]⟩, .string ⟨#[116]⟩, .string ⟨u.toArray⟩] 23)
          have hX1 := Blk.new w2 23 #[.int .i64 8, .int .i64 a, .int .i64 b, .int .i64 n, .string ⟨#[]⟩, .string ⟨#[116]⟩, .string ⟨u.toArray⟩]
          (with_reducible refine (HL.out _ (hM.keep B1)).mono ?_)
          rintro e w3 ⟨rfl, hb⟩
          have B1 := bel_step B1 hb
          have hP1 := hP1.below hb hP1.lt
          have hX1 := hX1.below hb hX1.lt
          clear hb
          have z0 := hP1.cell 0
          have z1 := hP1.cell 1
          have z2 := hP1.cell 2
          have z3 := hP1.cell 3
          have z4 := hP1.cell 4
          have z5 := hP1.cell 5
          have z6 := hP1.cell 6
          simp at z0 z1 z2 z3 z4 z5 z6
          go_wp2_with fail
          (with_reducible refine (HCK.out _).mono ?_)
          rintro e w4 ⟨rfl, hb⟩
          have B1 := bel_step B1 hb
          have hX1 := hX1.below hb hX1.lt
          clear hb
          clear z0 z1 z2 z3 z4 z5 z6
          have z0 := hX1.cell 0
          have z1 := hX1.cell 1
          have z2 := hX1.cell 2
          have z3 := hX1.cell 3
          have z4 := hX1.cell 4
          have z5 := hX1.cell 5
          have z6 := hX1.cell 6
          simp at z0 z1 z2 z3 z4 z5 z6
          go_wp2_with fail
          (with_reducible refine (HCT2.out _).mono ?_)
          rintro e w5 ⟨rfl, hb⟩
          have B1 := bel_step B1 hb
          clear hb
          go_wp2_with fail
          go_ret
          exact ⟨rfl, B1⟩
        · go_enter Tryz.func4, Tryz.ntmps4
          have z0 := hP1.cell 0
          have z1 := hP1.cell 1
          have z2 := hP1.cell 2
          have z3 := hP1.cell 3
          have z4 := hP1.cell 4
          have z5 := hP1.cell 5
          have z6 := hP1.cell 6
          simp at z0 z1 z2 z3 z4 z5 z6
          go_wp2_with fail
          (with_reducible refine (HP.out _).mono ?_)
          rintro e w1 ⟨rfl, hb⟩
          have B1 := bel_step B1 hb
          have hP1 := hP1.below hb hP1.lt
          clear hb
          clear z0 z1 z2 z3 z4 z5 z6
          have z0 := hP1.cell 0
          have z1 := hP1.cell 1
          have z2 := hP1.cell 2
          have z3 := hP1.cell 3
          have z4 := hP1.cell 4
          have z5 := hP1.cell 5
          have z6 := hP1.cell 6
          simp at z0 z1 z2 z3 z4 z5 z6
          go_wp2_with fail
          (with_reducible refine (HRC.out _).mono ?_)
          rintro e w2 ⟨rfl, hb⟩
          have B1 := bel_step B1 hb
          have hP1 := hP1.below hb hP1.lt
          clear hb
          clear z0 z1 z2 z3 z4 z5 z6
          have z0 := hP1.cell 0
          have z1 := hP1.cell 1
          have z2 := hP1.cell 2
          have z3 := hP1.cell 3
          have z4 := hP1.cell 4
          have z5 := hP1.cell 5
          have z6 := hP1.cell 6
          simp at z0 z1 z2 z3 z4 z5 z6
          have y0 := fun o => (hP1.alloc o).cell 0
          simp at y0
          go_wp2_with fail
          clear z0 z1 z2 z3 z4 z5 z6 y0
          have B1 := bel_alloc B1 (.cells #[.int .i64 9, .int .i64 a, .int .i64 b, .int .i64 n, .string ⟨#[]⟩, .string ⟨#[116]⟩, .string ⟨u.toArray⟩] 23)
          have hP1 := hP1.alloc (.cells #[.int .i64 9, .int .i64 a, .int .i64 b, .int .i64 n, .string ⟨#[]⟩, .string ⟨#[116]⟩, .string ⟨u.toArray⟩] 23)
          have hX1 := Blk.new w2 23 #[.int .i64 9, .int .i64 a, .int .i64 b, .int .i64 n, .string ⟨#[]⟩, .string ⟨#[116]⟩, .string ⟨u.toArray⟩]
          (with_reducible refine (HL.out _ (hM.keep B1)).mono ?_)
          rintro e w3 ⟨rfl, hb⟩
          have B1 := bel_step B1 hb
          have hP1 := hP1.below hb hP1.lt
          have hX1 := hX1.below hb hX1.lt
          clear hb
          have z0 := hP1.cell 0
          have z1 := hP1.cell 1
          have z2 := hP1.cell 2
          have z3 := hP1.cell 3
          have z4 := hP1.cell 4
          have z5 := hP1.cell 5
          have z6 := hP1.cell 6
          simp at z0 z1 z2 z3 z4 z5 z6
          go_wp2_with fail
          (with_reducible refine (HCK.out _).mono ?_)
          rintro e w4 ⟨rfl, hb⟩
          have B1 := bel_step B1 hb
          have hX1 := hX1.below hb hX1.lt
          clear hb
          clear z0 z1 z2 z3 z4 z5 z6
          have z0 := hX1.cell 0
          have z1 := hX1.cell 1
          have z2 := hX1.cell 2
          have z3 := hX1.cell 3
          have z4 := hX1.cell 4
          have z5 := hX1.cell 5
          have z6 := hX1.cell 6
          simp at z0 z1 z2 z3 z4 z5 z6
          go_wp2_with fail
          (with_reducible refine (HCT2.out _).mono ?_)
          rintro e w5 ⟨rfl, hb⟩
          have B1 := bel_step B1 hb
          clear hb
          go_wp2_with fail
          go_ret
          exact ⟨rfl, B1⟩
        · go_enter Tryz.func4, Tryz.ntmps4
          have z0 := hP1.cell 0
          have z1 := hP1.cell 1
          have z2 := hP1.cell 2
          have z3 := hP1.cell 3
          have z4 := hP1.cell 4
          have z5 := hP1.cell 5
          have z6 := hP1.cell 6
          simp at z0 z1 z2 z3 z4 z5 z6
          go_wp2_with fail
          (with_reducible refine (HP.out _).mono ?_)
          rintro e w1 ⟨rfl, hb⟩
          have B1 := bel_step B1 hb
          have hP1 := hP1.below hb hP1.lt
          clear hb
          clear z0 z1 z2 z3 z4 z5 z6
          have z0 := hP1.cell 0
          have z1 := hP1.cell 1
          have z2 := hP1.cell 2
          have z3 := hP1.cell 3
          have z4 := hP1.cell 4
          have z5 := hP1.cell 5
          have z6 := hP1.cell 6
          simp at z0 z1 z2 z3 z4 z5 z6
          go_wp2_with fail
          (with_reducible refine (HRC.out _).mono ?_)
          rintro e w2 ⟨rfl, hb⟩
          have B1 := bel_step B1 hb
          have hP1 := hP1.below hb hP1.lt
          clear hb
          clear z0 z1 z2 z3 z4 z5 z6
          have z0 := hP1.cell 0
          have z1 := hP1.cell 1
          have z2 := hP1.cell 2
          have z3 := hP1.cell 3
          have z4 := hP1.cell 4
          have z5 := hP1.cell 5
          have z6 := hP1.cell 6
          simp at z0 z1 z2 z3 z4 z5 z6
          have y0 := fun o => (hP1.alloc o).cell 0
          simp at y0
          go_wp2_with fail
          clear z0 z1 z2 z3 z4 z5 z6 y0
          have B1 := bel_alloc B1 (.cells #[.int .i64 6, .int .i64 a, .int .i64 b, .int .i64 n, .string ⟨#[]⟩, .string ⟨#[116]⟩, .string ⟨u.toArray⟩] 23)
          have hP1 := hP1.alloc (.cells #[.int .i64 6, .int .i64 a, .int .i64 b, .int .i64 n, .string ⟨#[]⟩, .string ⟨#[116]⟩, .string ⟨u.toArray⟩] 23)
          have hX1 := Blk.new w2 23 #[.int .i64 6, .int .i64 a, .int .i64 b, .int .i64 n, .string ⟨#[]⟩, .string ⟨#[116]⟩, .string ⟨u.toArray⟩]
          (with_reducible refine (HL.out _ (hM.keep B1)).mono ?_)
          rintro e w3 ⟨rfl, hb⟩
          have B1 := bel_step B1 hb
          have hP1 := hP1.below hb hP1.lt
          have hX1 := hX1.below hb hX1.lt
          clear hb
          have z0 := hP1.cell 0
          have z1 := hP1.cell 1
          have z2 := hP1.cell 2
          have z3 := hP1.cell 3
          have z4 := hP1.cell 4
          have z5 := hP1.cell 5
          have z6 := hP1.cell 6
          simp at z0 z1 z2 z3 z4 z5 z6
          go_wp2_with fail
          (with_reducible refine (HCK.out _).mono ?_)
          rintro e w4 ⟨rfl, hb⟩
          have B1 := bel_step B1 hb
          have hX1 := hX1.below hb hX1.lt
          clear hb
          clear z0 z1 z2 z3 z4 z5 z6
          have z0 := hX1.cell 0
          have z1 := hX1.cell 1
          have z2 := hX1.cell 2
          have z3 := hX1.cell 3
          have z4 := hX1.cell 4
          have z5 := hX1.cell 5
          have z6 := hX1.cell 6
          simp at z0 z1 z2 z3 z4 z5 z6
          go_wp2_with fail
          (with_reducible refine (HCT2.out _).mono ?_)
          rintro e w5 ⟨rfl, hb⟩
          have B1 := bel_step B1 hb
          clear hb
          go_wp2_with fail
          go_ret
          exact ⟨rfl, B1⟩
        · go_enter Tryz.func4, Tryz.ntmps4
          have z0 := hP1.cell 0
          have z1 := hP1.cell 1
          have z2 := hP1.cell 2
          have z3 := hP1.cell 3
          have z4 := hP1.cell 4
          have z5 := hP1.cell 5
          have z6 := hP1.cell 6
          simp at z0 z1 z2 z3 z4 z5 z6
          go_wp2_with fail
          (with_reducible refine (HP.out _).mono ?_)
          rintro e w1 ⟨rfl, hb⟩
          have B1 := bel_step B1 hb
          have hP1 := hP1.below hb hP1.lt
          clear hb
          clear z0 z1 z2 z3 z4 z5 z6
          have z0 := hP1.cell 0
          have z1 := hP1.cell 1
          have z2 := hP1.cell 2
          have z3 := hP1.cell 3
          have z4 := hP1.cell 4
          have z5 := hP1.cell 5
          have z6 := hP1.cell 6
          simp at z0 z1 z2 z3 z4 z5 z6
          go_wp2_with fail
          (with_reducible refine (HRC.out _).mono ?_)
          rintro e w2 ⟨rfl, hb⟩
          have B1 := bel_step B1 hb
          have hP1 := hP1.below hb hP1.lt
          clear hb
          clear z0 z1 z2 z3 z4 z5 z6
          have z0 := hP1.cell 0
          have z1 := hP1.cell 1
          have z2 := hP1.cell 2
          have z3 := hP1.cell 3
          have z4 := hP1.cell 4
          have z5 := hP1.cell 5
          have z6 := hP1.cell 6
          simp at z0 z1 z2 z3 z4 z5 z6
          have y0 := fun o => (hP1.alloc o).cell 0
          simp at y0
          go_wp2_with fail
          clear z0 z1 z2 z3 z4 z5 z6 y0
          have B1 := bel_alloc B1 (.cells #[.int .i64 13, .int .i64 a, .int .i64 b, .int .i64 n, .string ⟨#[]⟩, .string ⟨#[116]⟩, .string ⟨u.toArray⟩] 23)
          have hP1 := hP1.alloc (.cells #[.int .i64 13, .int .i64 a, .int .i64 b, .int .i64 n, .string ⟨#[]⟩, .string ⟨#[116]⟩, .string ⟨u.toArray⟩] 23)
          have hX1 := Blk.new w2 23 #[.int .i64 13, .int .i64 a, .int .i64 b, .int .i64 n, .string ⟨#[]⟩, .string ⟨#[116]⟩, .string ⟨u.toArray⟩]
          (with_reducible refine (HL.out _ (hM.keep B1)).mono ?_)
          rintro e w3 ⟨rfl, hb⟩
          have B1 := bel_step B1 hb
          have hP1 := hP1.below hb hP1.lt
          have hX1 := hX1.below hb hX1.lt
          clear hb
          have z0 := hP1.cell 0
          have z1 := hP1.cell 1
          have z2 := hP1.cell 2
          have z3 := hP1.cell 3
          have z4 := hP1.cell 4
          have z5 := hP1.cell 5
          have z6 := hP1.cell 6
          simp at z0 z1 z2 z3 z4 z5 z6
          go_wp2_with fail
          (with_reducible refine (HCK.out _).mono ?_)
          rintro e w4 ⟨rfl, hb⟩
          have B1 := bel_step B1 hb
          have hX1 := hX1.below hb hX1.lt
          clear hb
          clear z0 z1 z2 z3 z4 z5 z6
          have z0 := hX1.cell 0
          have z1 := hX1.cell 1
          have z2 := hX1.cell 2
          have z3 := hX1.cell 3
          have z4 := hX1.cell 4
          have z5 := hX1.cell 5
          have z6 := hX1.cell 6
          simp at z0 z1 z2 z3 z4 z5 z6
          go_wp2_with fail
          (with_reducible refine (HCT2.out _).mono ?_)
          rintro e w5 ⟨rfl, hb⟩
          have B1 := bel_step B1 hb
          clear hb
          go_wp2_with fail
          go_ret
          exact ⟨rfl, B1⟩
    · have ho : k = 1 ∨ k = 3 ∨ k = 5 ∨ k = 7 ∨ k = 10 ∨ k = 11 := by omega
      clear hset hk HCS HCT
      rcases ho with rfl | rfl | rfl | rfl | rfl | rfl
      · go_enter Tryz.func4, Tryz.ntmps4
        have z0 := hP1.cell 0
        have z1 := hP1.cell 1
        have z2 := hP1.cell 2
        have z3 := hP1.cell 3
        have z4 := hP1.cell 4
        have z5 := hP1.cell 5
        have z6 := hP1.cell 6
        simp at z0 z1 z2 z3 z4 z5 z6
        go_wp2_with fail
        (with_reducible refine (HP.out _).mono ?_)
        rintro e w1 ⟨rfl, hb⟩
        have B1 := bel_step B1 hb
        have hP1 := hP1.below hb hP1.lt
        clear hb
        clear z0 z1 z2 z3 z4 z5 z6
        have z0 := hP1.cell 0
        have z1 := hP1.cell 1
        have z2 := hP1.cell 2
        have z3 := hP1.cell 3
        have z4 := hP1.cell 4
        have z5 := hP1.cell 5
        have z6 := hP1.cell 6
        simp at z0 z1 z2 z3 z4 z5 z6
        go_wp2_with fail
        (with_reducible refine (HRC.out _).mono ?_)
        rintro e w2 ⟨rfl, hb⟩
        have B1 := bel_step B1 hb
        have hP1 := hP1.below hb hP1.lt
        clear hb
        clear z0 z1 z2 z3 z4 z5 z6
        have z0 := hP1.cell 0
        have z1 := hP1.cell 1
        have z2 := hP1.cell 2
        have z3 := hP1.cell 3
        have z4 := hP1.cell 4
        have z5 := hP1.cell 5
        have z6 := hP1.cell 6
        simp at z0 z1 z2 z3 z4 z5 z6
        have y0 := fun o => (hP1.alloc o).cell 0
        simp at y0
        go_wp2_with fail
        clear z0 z1 z2 z3 z4 z5 z6 y0
        have B1 := bel_alloc B1 (.cells #[.int .i64 14, .int .i64 a, .int .i64 b, .int .i64 n, .string ⟨s.toArray⟩, .string ⟨t.toArray⟩, .string ⟨u.toArray⟩] 23)
        have hP1 := hP1.alloc (.cells #[.int .i64 14, .int .i64 a, .int .i64 b, .int .i64 n, .string ⟨s.toArray⟩, .string ⟨t.toArray⟩, .string ⟨u.toArray⟩] 23)
        have hX1 := Blk.new w2 23 #[.int .i64 14, .int .i64 a, .int .i64 b, .int .i64 n, .string ⟨s.toArray⟩, .string ⟨t.toArray⟩, .string ⟨u.toArray⟩]
        (with_reducible refine (HL.out _ (hM.keep B1)).mono ?_)
        rintro e w3 ⟨rfl, hb⟩
        have B1 := bel_step B1 hb
        have hP1 := hP1.below hb hP1.lt
        have hX1 := hX1.below hb hX1.lt
        clear hb
        have z0 := hP1.cell 0
        have z1 := hP1.cell 1
        have z2 := hP1.cell 2
        have z3 := hP1.cell 3
        have z4 := hP1.cell 4
        have z5 := hP1.cell 5
        have z6 := hP1.cell 6
        simp at z0 z1 z2 z3 z4 z5 z6
        go_wp2_with fail
        (with_reducible refine (HCK.out _).mono ?_)
        rintro e w4 ⟨rfl, hb⟩
        have B1 := bel_step B1 hb
        have hX1 := hX1.below hb hX1.lt
        clear hb
        clear z0 z1 z2 z3 z4 z5 z6
        have z0 := hX1.cell 0
        have z1 := hX1.cell 1
        have z2 := hX1.cell 2
        have z3 := hX1.cell 3
        have z4 := hX1.cell 4
        have z5 := hX1.cell 5
        have z6 := hX1.cell 6
        simp at z0 z1 z2 z3 z4 z5 z6
        go_wp2_with fail
        (with_reducible refine (HC14.out _).mono ?_)
        rintro e w5 ⟨rfl, hb⟩
        have B1 := bel_step B1 hb
        clear hb
        go_wp2_with fail
        go_ret
        exact ⟨rfl, B1⟩
      · go_enter Tryz.func4, Tryz.ntmps4
        have z0 := hP1.cell 0
        have z1 := hP1.cell 1
        have z2 := hP1.cell 2
        have z3 := hP1.cell 3
        have z4 := hP1.cell 4
        have z5 := hP1.cell 5
        have z6 := hP1.cell 6
        simp at z0 z1 z2 z3 z4 z5 z6
        go_wp2_with fail
        (with_reducible refine (HP.out _).mono ?_)
        rintro e w1 ⟨rfl, hb⟩
        have B1 := bel_step B1 hb
        have hP1 := hP1.below hb hP1.lt
        clear hb
        clear z0 z1 z2 z3 z4 z5 z6
        have z0 := hP1.cell 0
        have z1 := hP1.cell 1
        have z2 := hP1.cell 2
        have z3 := hP1.cell 3
        have z4 := hP1.cell 4
        have z5 := hP1.cell 5
        have z6 := hP1.cell 6
        simp at z0 z1 z2 z3 z4 z5 z6
        go_wp2_with fail
        (with_reducible refine (HRC.out _).mono ?_)
        rintro e w2 ⟨rfl, hb⟩
        have B1 := bel_step B1 hb
        have hP1 := hP1.below hb hP1.lt
        clear hb
        clear z0 z1 z2 z3 z4 z5 z6
        have z0 := hP1.cell 0
        have z1 := hP1.cell 1
        have z2 := hP1.cell 2
        have z3 := hP1.cell 3
        have z4 := hP1.cell 4
        have z5 := hP1.cell 5
        have z6 := hP1.cell 6
        simp at z0 z1 z2 z3 z4 z5 z6
        have y0 := fun o => (hP1.alloc o).cell 0
        simp at y0
        go_wp2_with fail
        clear z0 z1 z2 z3 z4 z5 z6 y0
        have B1 := bel_alloc B1 (.cells #[.int .i64 14, .int .i64 a, .int .i64 b, .int .i64 n, .string ⟨s.toArray⟩, .string ⟨t.toArray⟩, .string ⟨u.toArray⟩] 23)
        have hP1 := hP1.alloc (.cells #[.int .i64 14, .int .i64 a, .int .i64 b, .int .i64 n, .string ⟨s.toArray⟩, .string ⟨t.toArray⟩, .string ⟨u.toArray⟩] 23)
        have hX1 := Blk.new w2 23 #[.int .i64 14, .int .i64 a, .int .i64 b, .int .i64 n, .string ⟨s.toArray⟩, .string ⟨t.toArray⟩, .string ⟨u.toArray⟩]
        (with_reducible refine (HL.out _ (hM.keep B1)).mono ?_)
        rintro e w3 ⟨rfl, hb⟩
        have B1 := bel_step B1 hb
        have hP1 := hP1.below hb hP1.lt
        have hX1 := hX1.below hb hX1.lt
        clear hb
        have z0 := hP1.cell 0
        have z1 := hP1.cell 1
        have z2 := hP1.cell 2
        have z3 := hP1.cell 3
        have z4 := hP1.cell 4
        have z5 := hP1.cell 5
        have z6 := hP1.cell 6
        simp at z0 z1 z2 z3 z4 z5 z6
        go_wp2_with fail
        (with_reducible refine (HCK.out _).mono ?_)
        rintro e w4 ⟨rfl, hb⟩
        have B1 := bel_step B1 hb
        have hX1 := hX1.below hb hX1.lt
        clear hb
        clear z0 z1 z2 z3 z4 z5 z6
        have z0 := hX1.cell 0
        have z1 := hX1.cell 1
        have z2 := hX1.cell 2
        have z3 := hX1.cell 3
        have z4 := hX1.cell 4
        have z5 := hX1.cell 5
        have z6 := hX1.cell 6
        simp at z0 z1 z2 z3 z4 z5 z6
        go_wp2_with fail
        (with_reducible refine (HC14.out _).mono ?_)
        rintro e w5 ⟨rfl, hb⟩
        have B1 := bel_step B1 hb
        clear hb
        go_wp2_with fail
        go_ret
        exact ⟨rfl, B1⟩
      · go_enter Tryz.func4, Tryz.ntmps4
        have z0 := hP1.cell 0
        have z1 := hP1.cell 1
        have z2 := hP1.cell 2
        have z3 := hP1.cell 3
        have z4 := hP1.cell 4
        have z5 := hP1.cell 5
        have z6 := hP1.cell 6
        simp at z0 z1 z2 z3 z4 z5 z6
        go_wp2_with fail
        (with_reducible refine (HP.out _).mono ?_)
        rintro e w1 ⟨rfl, hb⟩
        have B1 := bel_step B1 hb
        have hP1 := hP1.below hb hP1.lt
        clear hb
        clear z0 z1 z2 z3 z4 z5 z6
        have z0 := hP1.cell 0
        have z1 := hP1.cell 1
        have z2 := hP1.cell 2
        have z3 := hP1.cell 3
        have z4 := hP1.cell 4
        have z5 := hP1.cell 5
        have z6 := hP1.cell 6
        simp at z0 z1 z2 z3 z4 z5 z6
        go_wp2_with fail
        (with_reducible refine (HRC.out _).mono ?_)
        rintro e w2 ⟨rfl, hb⟩
        have B1 := bel_step B1 hb
        have hP1 := hP1.below hb hP1.lt
        clear hb
        clear z0 z1 z2 z3 z4 z5 z6
        have z0 := hP1.cell 0
        have z1 := hP1.cell 1
        have z2 := hP1.cell 2
        have z3 := hP1.cell 3
        have z4 := hP1.cell 4
        have z5 := hP1.cell 5
        have z6 := hP1.cell 6
        simp at z0 z1 z2 z3 z4 z5 z6
        have y0 := fun o => (hP1.alloc o).cell 0
        simp at y0
        go_wp2_with fail
        clear z0 z1 z2 z3 z4 z5 z6 y0
        have B1 := bel_alloc B1 (.cells #[.int .i64 14, .int .i64 a, .int .i64 b, .int .i64 n, .string ⟨s.toArray⟩, .string ⟨t.toArray⟩, .string ⟨u.toArray⟩] 23)
        have hP1 := hP1.alloc (.cells #[.int .i64 14, .int .i64 a, .int .i64 b, .int .i64 n, .string ⟨s.toArray⟩, .string ⟨t.toArray⟩, .string ⟨u.toArray⟩] 23)
        have hX1 := Blk.new w2 23 #[.int .i64 14, .int .i64 a, .int .i64 b, .int .i64 n, .string ⟨s.toArray⟩, .string ⟨t.toArray⟩, .string ⟨u.toArray⟩]
        (with_reducible refine (HL.out _ (hM.keep B1)).mono ?_)
        rintro e w3 ⟨rfl, hb⟩
        have B1 := bel_step B1 hb
        have hP1 := hP1.below hb hP1.lt
        have hX1 := hX1.below hb hX1.lt
        clear hb
        have z0 := hP1.cell 0
        have z1 := hP1.cell 1
        have z2 := hP1.cell 2
        have z3 := hP1.cell 3
        have z4 := hP1.cell 4
        have z5 := hP1.cell 5
        have z6 := hP1.cell 6
        simp at z0 z1 z2 z3 z4 z5 z6
        go_wp2_with fail
        (with_reducible refine (HCK.out _).mono ?_)
        rintro e w4 ⟨rfl, hb⟩
        have B1 := bel_step B1 hb
        have hX1 := hX1.below hb hX1.lt
        clear hb
        clear z0 z1 z2 z3 z4 z5 z6
        have z0 := hX1.cell 0
        have z1 := hX1.cell 1
        have z2 := hX1.cell 2
        have z3 := hX1.cell 3
        have z4 := hX1.cell 4
        have z5 := hX1.cell 5
        have z6 := hX1.cell 6
        simp at z0 z1 z2 z3 z4 z5 z6
        go_wp2_with fail
        (with_reducible refine (HC14.out _).mono ?_)
        rintro e w5 ⟨rfl, hb⟩
        have B1 := bel_step B1 hb
        clear hb
        go_wp2_with fail
        go_ret
        exact ⟨rfl, B1⟩
      · go_enter Tryz.func4, Tryz.ntmps4
        have z0 := hP1.cell 0
        have z1 := hP1.cell 1
        have z2 := hP1.cell 2
        have z3 := hP1.cell 3
        have z4 := hP1.cell 4
        have z5 := hP1.cell 5
        have z6 := hP1.cell 6
        simp at z0 z1 z2 z3 z4 z5 z6
        go_wp2_with fail
        (with_reducible refine (HP.out _).mono ?_)
        rintro e w1 ⟨rfl, hb⟩
        have B1 := bel_step B1 hb
        have hP1 := hP1.below hb hP1.lt
        clear hb
        clear z0 z1 z2 z3 z4 z5 z6
        have z0 := hP1.cell 0
        have z1 := hP1.cell 1
        have z2 := hP1.cell 2
        have z3 := hP1.cell 3
        have z4 := hP1.cell 4
        have z5 := hP1.cell 5
        have z6 := hP1.cell 6
        simp at z0 z1 z2 z3 z4 z5 z6
        go_wp2_with fail
        (with_reducible refine (HRC.out _).mono ?_)
        rintro e w2 ⟨rfl, hb⟩
        have B1 := bel_step B1 hb
        have hP1 := hP1.below hb hP1.lt
        clear hb
        clear z0 z1 z2 z3 z4 z5 z6
        have z0 := hP1.cell 0
        have z1 := hP1.cell 1
        have z2 := hP1.cell 2
        have z3 := hP1.cell 3
        have z4 := hP1.cell 4
        have z5 := hP1.cell 5
        have z6 := hP1.cell 6
        simp at z0 z1 z2 z3 z4 z5 z6
        have y0 := fun o => (hP1.alloc o).cell 0
        simp at y0
        go_wp2_with fail
        clear z0 z1 z2 z3 z4 z5 z6 y0
        have B1 := bel_alloc B1 (.cells #[.int .i64 14, .int .i64 a, .int .i64 b, .int .i64 n, .string ⟨s.toArray⟩, .string ⟨t.toArray⟩, .string ⟨u.toArray⟩] 23)
        have hP1 := hP1.alloc (.cells #[.int .i64 14, .int .i64 a, .int .i64 b, .int .i64 n, .string ⟨s.toArray⟩, .string ⟨t.toArray⟩, .string ⟨u.toArray⟩] 23)
        have hX1 := Blk.new w2 23 #[.int .i64 14, .int .i64 a, .int .i64 b, .int .i64 n, .string ⟨s.toArray⟩, .string ⟨t.toArray⟩, .string ⟨u.toArray⟩]
        (with_reducible refine (HL.out _ (hM.keep B1)).mono ?_)
        rintro e w3 ⟨rfl, hb⟩
        have B1 := bel_step B1 hb
        have hP1 := hP1.below hb hP1.lt
        have hX1 := hX1.below hb hX1.lt
        clear hb
        have z0 := hP1.cell 0
        have z1 := hP1.cell 1
        have z2 := hP1.cell 2
        have z3 := hP1.cell 3
        have z4 := hP1.cell 4
        have z5 := hP1.cell 5
        have z6 := hP1.cell 6
        simp at z0 z1 z2 z3 z4 z5 z6
        go_wp2_with fail
        (with_reducible refine (HCK.out _).mono ?_)
        rintro e w4 ⟨rfl, hb⟩
        have B1 := bel_step B1 hb
        have hX1 := hX1.below hb hX1.lt
        clear hb
        clear z0 z1 z2 z3 z4 z5 z6
        have z0 := hX1.cell 0
        have z1 := hX1.cell 1
        have z2 := hX1.cell 2
        have z3 := hX1.cell 3
        have z4 := hX1.cell 4
        have z5 := hX1.cell 5
        have z6 := hX1.cell 6
        simp at z0 z1 z2 z3 z4 z5 z6
        go_wp2_with fail
        (with_reducible refine (HC14.out _).mono ?_)
        rintro e w5 ⟨rfl, hb⟩
        have B1 := bel_step B1 hb
        clear hb
        go_wp2_with fail
        go_ret
        exact ⟨rfl, B1⟩
      · go_enter Tryz.func4, Tryz.ntmps4
        have z0 := hP1.cell 0
        have z1 := hP1.cell 1
        have z2 := hP1.cell 2
        have z3 := hP1.cell 3
        have z4 := hP1.cell 4
        have z5 := hP1.cell 5
        have z6 := hP1.cell 6
        simp at z0 z1 z2 z3 z4 z5 z6
        go_wp2_with fail
        (with_reducible refine (HP.out _).mono ?_)
        rintro e w1 ⟨rfl, hb⟩
        have B1 := bel_step B1 hb
        have hP1 := hP1.below hb hP1.lt
        clear hb
        clear z0 z1 z2 z3 z4 z5 z6
        have z0 := hP1.cell 0
        have z1 := hP1.cell 1
        have z2 := hP1.cell 2
        have z3 := hP1.cell 3
        have z4 := hP1.cell 4
        have z5 := hP1.cell 5
        have z6 := hP1.cell 6
        simp at z0 z1 z2 z3 z4 z5 z6
        go_wp2_with fail
        (with_reducible refine (HRC.out _).mono ?_)
        rintro e w2 ⟨rfl, hb⟩
        have B1 := bel_step B1 hb
        have hP1 := hP1.below hb hP1.lt
        clear hb
        clear z0 z1 z2 z3 z4 z5 z6
        have z0 := hP1.cell 0
        have z1 := hP1.cell 1
        have z2 := hP1.cell 2
        have z3 := hP1.cell 3
        have z4 := hP1.cell 4
        have z5 := hP1.cell 5
        have z6 := hP1.cell 6
        simp at z0 z1 z2 z3 z4 z5 z6
        have y0 := fun o => (hP1.alloc o).cell 0
        simp at y0
        go_wp2_with fail
        clear z0 z1 z2 z3 z4 z5 z6 y0
        have B1 := bel_alloc B1 (.cells #[.int .i64 14, .int .i64 a, .int .i64 b, .int .i64 n, .string ⟨s.toArray⟩, .string ⟨t.toArray⟩, .string ⟨u.toArray⟩] 23)
        have hP1 := hP1.alloc (.cells #[.int .i64 14, .int .i64 a, .int .i64 b, .int .i64 n, .string ⟨s.toArray⟩, .string ⟨t.toArray⟩, .string ⟨u.toArray⟩] 23)
        have hX1 := Blk.new w2 23 #[.int .i64 14, .int .i64 a, .int .i64 b, .int .i64 n, .string ⟨s.toArray⟩, .string ⟨t.toArray⟩, .string ⟨u.toArray⟩]
        (with_reducible refine (HL.out _ (hM.keep B1)).mono ?_)
        rintro e w3 ⟨rfl, hb⟩
        have B1 := bel_step B1 hb
        have hP1 := hP1.below hb hP1.lt
        have hX1 := hX1.below hb hX1.lt
        clear hb
        have z0 := hP1.cell 0
        have z1 := hP1.cell 1
        have z2 := hP1.cell 2
        have z3 := hP1.cell 3
        have z4 := hP1.cell 4
        have z5 := hP1.cell 5
        have z6 := hP1.cell 6
        simp at z0 z1 z2 z3 z4 z5 z6
        go_wp2_with fail
        (with_reducible refine (HCK.out _).mono ?_)
        rintro e w4 ⟨rfl, hb⟩
        have B1 := bel_step B1 hb
        have hX1 := hX1.below hb hX1.lt
        clear hb
        clear z0 z1 z2 z3 z4 z5 z6
        have z0 := hX1.cell 0
        have z1 := hX1.cell 1
        have z2 := hX1.cell 2
        have z3 := hX1.cell 3
        have z4 := hX1.cell 4
        have z5 := hX1.cell 5
        have z6 := hX1.cell 6
        simp at z0 z1 z2 z3 z4 z5 z6
        go_wp2_with fail
        (with_reducible refine (HC14.out _).mono ?_)
        rintro e w5 ⟨rfl, hb⟩
        have B1 := bel_step B1 hb
        clear hb
        go_wp2_with fail
        go_ret
        exact ⟨rfl, B1⟩
      · go_enter Tryz.func4, Tryz.ntmps4
        have z0 := hP1.cell 0
        have z1 := hP1.cell 1
        have z2 := hP1.cell 2
        have z3 := hP1.cell 3
        have z4 := hP1.cell 4
        have z5 := hP1.cell 5
        have z6 := hP1.cell 6
        simp at z0 z1 z2 z3 z4 z5 z6
        go_wp2_with fail
        (with_reducible refine (HP.out _).mono ?_)
        rintro e w1 ⟨rfl, hb⟩
        have B1 := bel_step B1 hb
        have hP1 := hP1.below hb hP1.lt
        clear hb
        clear z0 z1 z2 z3 z4 z5 z6
        have z0 := hP1.cell 0
        have z1 := hP1.cell 1
        have z2 := hP1.cell 2
        have z3 := hP1.cell 3
        have z4 := hP1.cell 4
        have z5 := hP1.cell 5
        have z6 := hP1.cell 6
        simp at z0 z1 z2 z3 z4 z5 z6
        go_wp2_with fail
        (with_reducible refine (HRC.out _).mono ?_)
        rintro e w2 ⟨rfl, hb⟩
        have B1 := bel_step B1 hb
        have hP1 := hP1.below hb hP1.lt
        clear hb
        clear z0 z1 z2 z3 z4 z5 z6
        have z0 := hP1.cell 0
        have z1 := hP1.cell 1
        have z2 := hP1.cell 2
        have z3 := hP1.cell 3
        have z4 := hP1.cell 4
        have z5 := hP1.cell 5
        have z6 := hP1.cell 6
        simp at z0 z1 z2 z3 z4 z5 z6
        have y0 := fun o => (hP1.alloc o).cell 0
        simp at y0
        go_wp2_with fail
        clear z0 z1 z2 z3 z4 z5 z6 y0
        have B1 := bel_alloc B1 (.cells #[.int .i64 14, .int .i64 a, .int .i64 b, .int .i64 n, .string ⟨s.toArray⟩, .string ⟨t.toArray⟩, .string ⟨u.toArray⟩] 23)
        have hP1 := hP1.alloc (.cells #[.int .i64 14, .int .i64 a, .int .i64 b, .int .i64 n, .string ⟨s.toArray⟩, .string ⟨t.toArray⟩, .string ⟨u.toArray⟩] 23)
        have hX1 := Blk.new w2 23 #[.int .i64 14, .int .i64 a, .int .i64 b, .int .i64 n, .string ⟨s.toArray⟩, .string ⟨t.toArray⟩, .string ⟨u.toArray⟩]
        (with_reducible refine (HL.out _ (hM.keep B1)).mono ?_)
        rintro e w3 ⟨rfl, hb⟩
        have B1 := bel_step B1 hb
        have hP1 := hP1.below hb hP1.lt
        have hX1 := hX1.below hb hX1.lt
        clear hb
        have z0 := hP1.cell 0
        have z1 := hP1.cell 1
        have z2 := hP1.cell 2
        have z3 := hP1.cell 3
        have z4 := hP1.cell 4
        have z5 := hP1.cell 5
        have z6 := hP1.cell 6
        simp at z0 z1 z2 z3 z4 z5 z6
        go_wp2_with fail
        (with_reducible refine (HCK.out _).mono ?_)
        rintro e w4 ⟨rfl, hb⟩
        have B1 := bel_step B1 hb
        have hX1 := hX1.below hb hX1.lt
        clear hb
        clear z0 z1 z2 z3 z4 z5 z6
        have z0 := hX1.cell 0
        have z1 := hX1.cell 1
        have z2 := hX1.cell 2
        have z3 := hX1.cell 3
        have z4 := hX1.cell 4
        have z5 := hX1.cell 5
        have z6 := hX1.cell 6
        simp at z0 z1 z2 z3 z4 z5 z6
        go_wp2_with fail
        (with_reducible refine (HC14.out _).mono ?_)
        rintro e w5 ⟨rfl, hb⟩
        have B1 := bel_step B1 hb
        clear hb
        go_wp2_with fail
        go_ret
        exact ⟨rfl, B1⟩
end Go.Proofs.YtchcedoaiihnmaaGreatDoor
