/-
  Queries' texts and what they lean on, part 22: only what the claims need.
-/
import Derived.Test.YtjjlmkleidbmhaaGreatDoorZ18
section
namespace Go.Proofs.YtjjlmkleidbmhaaGreatDoor
open Go.ChangeShapes Go.WideShapes Go.ChangeAt Go.Deep
open Go.RowKit Go.Nst
set_option maxRecDepth 100000
set_option linter.unusedVariables false
set_option linter.unusedSimpArgs false

theorem retTm_of {tm : Option Qy} {q : Qy} {vs : Array Value} {w w' : World} (b : Bool) (hb : okQ q = b) (ht : tm = chkQ q) (h1 : QAt w' (fun b => w.heap.size ≤ b) vs q) (h2 : Below w.heap.size w w') : RetTm tm w (.returned (.tuple #[.agg vs, .bool b])) w' := by
  subst hb
  subst ht
  refine ⟨q, vs, ?_, h1, h2, fun q' h => ?_⟩
  · unfold chkQ
    cases okQ q <;> rfl
  · unfold chkQ at h
    split at h
    · injection h with h
      exact h.symm
    · cases h
set_option maxHeartbeats 2000000 in
theorem term26_yes (s a r : List UInt8) (hc : Lib.cut s [58] = (a, r, true)) (w : World) (hs : s.length ≤ 512) (har : a.length + r.length ≤ 512) (hW : QpW w) (hok : (nmC a r).2 = true) : Calls Tryz.prog 86 #[.string ⟨(s : List UInt8).toArray⟩] w (RetTm (tmC s) w) := by
  obtain ⟨o, n, t, hq, ho, hn, ht⟩ := nmC_ok a r (by omega)
  have HTM : Hid (tmC s = chkQ ⟨o, n, t, []⟩) := Lib.hid (by unfold tmC; rw [hc]; simp [hok, hq])
  have B0 := bel_alloc (Below.refl w.heap.size w) (.cells #[.int .i64 0, .int .i64 0, .string ⟨#[]⟩, .slice none 0 0] 25)
  have B1 := Lib.hid (bel_alloc B0 (.cells #[.int .i64 0, .int .i64 0, .string ⟨#[]⟩, .slice none 0 0] 25))
  have X0 := Lib.hid ((Blk.new w 25 #[.int .i64 0, .int .i64 0, .string ⟨#[]⟩, .slice none 0 0]).alloc (.cells #[.int .i64 0, .int .i64 0, .string ⟨#[]⟩, .slice none 0 0] 25))
  have X1 : Hid (Blk ((w.alloc (.cells #[.int .i64 0, .int .i64 0, .string ⟨#[]⟩, .slice none 0 0] 25)).alloc (.cells #[.int .i64 0, .int .i64 0, .string ⟨#[]⟩, .slice none 0 0] 25)) (w.heap.size + 1) 25 #[.int .i64 0, .int .i64 0, .string ⟨#[]⟩, .slice none 0 0]) := Lib.hid (by
    have h := Blk.new (w.alloc (.cells #[.int .i64 0, .int .i64 0, .string ⟨#[]⟩, .slice none 0 0] 25)) 25 #[.int .i64 0, .int .i64 0, .string ⟨#[]⟩, .slice none 0 0]
    rwa [show (w.alloc (.cells #[.int .i64 0, .int .i64 0, .string ⟨#[]⟩, .slice none 0 0] 25)).heap.size = w.heap.size + 1 by simp] at h)
  have HW1 := Lib.hid (hW.keep B1.out)
  have HCUT := Lib.hid (cut26_any s a r true hc _ hs HW1.out)
  have HNM : Hid (∀ W, QpW W → Calls Tryz.prog 105 #[.string ⟨a.toArray⟩, .string ⟨r.toArray⟩] W (RetLf W o n t true)) := Lib.hid (fun W h => by
    have h1 := named26_any a r W (by omega) h
    rw [hq, hok] at h1
    exact h1)
  have HCK := Lib.hid (fun W => check_leaf o n t ho hn ht W)
  have HQL : Hid (∀ {W : World}, QAt W (fun b => w.heap.size ≤ b) #[.int .i64 o, .int .i64 n, .string ⟨(t : List UInt8).toArray⟩, .slice none 0 0] ⟨o, n, t, []⟩) := Lib.hid (QAt.leaf ho hn (by omega))
  generalize hbb : okQ ⟨o, n, t, []⟩ = b at HCK
  have HBB := Lib.hid hbb
  clear hbb
  generalize tmC s = tm at *
  clear hW hc hok hq B0
  go_enter Tryz.func86, Tryz.ntmps86
  go_wp2_with fail
  (with_reducible refine (HCUT.out).mono ?_)
  rintro _ w1 ⟨rfl, hw1⟩
  have HB1 := Lib.hid hw1
  have hz1 := HB1.out.size
  simp at hz1
  clear hw1
  go_wp2_with fail
  (with_reducible refine (HNM.out w1 (HW1.out.keep HB1.out)).mono ?_)
  rintro _ w2 ⟨rfl, hb2⟩
  have HX0 := Lib.hid ((X0.out.below HB1.out X0.out.lt).below hb2 (by omega))
  have HX1 := Lib.hid ((X1.out.below HB1.out X1.out.lt).below hb2 (by omega))
  obtain ⟨k0, k1, k2, k3, k4, k5⟩ := res_facts HX0.out
  obtain ⟨m0, m1, m2, m3, m4, m5⟩ := res_facts HX1.out
  have HBW := Lib.hid (bel4 (bel_step B1.out (bel_step HB1.out hb2)) (show w.heap.size ≤ w.heap.size + 1 by omega) (.int .i64 o) (.int .i64 n) (.string ⟨t.toArray⟩) (.slice none 0 0))
  have HY1 := Lib.hid (set4 HX1.out (.int .i64 o) (.int .i64 n) (.string ⟨t.toArray⟩) (.slice none 0 0))
  have HY0 := Lib.hid (HX0.out.grown (grown4 w2 (w.heap.size + 1) (.int .i64 o) (.int .i64 n) (.string ⟨t.toArray⟩) (.slice none 0 0)) (by simp))
  clear hb2
  go_wp2_with fail
  obtain ⟨wy, hwy⟩ : ∃ wy, wy = ((((w2.setCell ⟨w.heap.size + 1, 0, none⟩ (.int .i64 o)).setCell ⟨w.heap.size + 1, 1, none⟩ (.int .i64 n)).setCell ⟨w.heap.size + 1, 2, none⟩ (.string ⟨t.toArray⟩)).setCell ⟨w.heap.size + 1, 3, none⟩ (.slice none 0 0)) := ⟨_, rfl⟩
  rw [← hwy] at HY1 HY0 HBW ⊢
  clear hwy k0 k1 k2 k3 k4 k5 m0 m1 m2 m3 m4 m5
  refine wp_region_ordR (fun u v => u.grownBy v (some w.heap.size)) (fun _ => World.grownBy.refl _ _) (fun _ _ _ => grown_trans) (by kernel_rfl) (.take 0 (.take 1 (.take 2 (.take 3 (.exec 4 (.take 5 (.take 6 (.exec 7 (.take 8 (.nil)))))))))) (by kernel_rfl) (by kernel_rfl) (by kernel_rfl) ?_
  obtain ⟨w0, hw0⟩ : ∃ w0, w0 = wy.drew := ⟨_, rfl⟩
  have BQ : Below w.heap.size w w0 := by rw [hw0]; exact HBW.out.drew
  have HX : Blk w0 w.heap.size 25 #[.int .i64 0, .int .i64 0, .string ⟨#[]⟩, .slice none 0 0] := by rw [hw0]; exact HY0.out.drew
  have HY : Blk w0 (w.heap.size + 1) 25 #[.int .i64 o, .int .i64 n, .string ⟨t.toArray⟩, .slice none 0 0] := by rw [hw0]; exact HY1.out.drew
  rw [← hw0]
  clear hw0
  have y0 := fun W (hW : w0.grownBy W (some w.heap.size)) => (show W.cell? ⟨w.heap.size + 1, 0, none⟩ = some (.int .i64 o) from ((HY.grown hW (by simp)).cell 0).trans rfl)
  have y1 := fun W (hW : w0.grownBy W (some w.heap.size)) => (show W.cell? ⟨w.heap.size + 1, 1, none⟩ = some (.int .i64 n) from ((HY.grown hW (by simp)).cell 1).trans rfl)
  have y2 := fun W (hW : w0.grownBy W (some w.heap.size)) => (show W.cell? ⟨w.heap.size + 1, 2, none⟩ = some (.string ⟨t.toArray⟩) from ((HY.grown hW (by simp)).cell 2).trans rfl)
  have y3 := fun W (hW : w0.grownBy W (some w.heap.size)) => (show W.cell? ⟨w.heap.size + 1, 3, none⟩ = some (.slice none 0 0) from ((HY.grown hW (by simp)).cell 3).trans rfl)
  have HXH := Lib.hid HX
  have BQH := Lib.hid BQ
  clear HX HY BQ
  iterate 4 (refine wpOrd_take (o := ⟨_, _, _, _, _, _⟩) (v := ?_) rfl rfl ?_ ?_; rotate_left; (focus (intro W hW; go_simp; first | done | with_reducible rfl)); simp only [Act.put, List.setIfInBounds_toArray, List.set_cons_zero, List.set_cons_succ])
  clear y0 y1 y2 y3
  have CN := Lib.hid (HCK.out w0)
  cases b with
  | true => 
    have CN : Hid (Calls Tryz.prog 19 #[.agg #[.int .i64 o, .int .i64 n, .string ⟨t.toArray⟩, .slice none 0 0]] w0 fun e w' => e = .returned (.int .i64 0) ∧ Below w0.heap.size w0 w') := CN
    refine wpOrd_exec (o := ⟨_, _, _, _, _, _⟩) rfl rfl (fun K hK => ?_)
    go_simp
    (with_reducible refine (CN.out).mono ?_)
    rintro _ w4 ⟨rfl, hb4⟩
    go_wp2_with fail
    refine hK _ _ (grown_of hb4) ?_
    clear hK K
    have HX4 := Lib.hid (HXH.out.below hb4 HXH.out.lt)
    have BQ4 := Lib.hid (bel_step BQH.out hb4)
    clear hb4
    iterate 2 (refine wpOrd_take (o := ⟨_, _, _, _, _, _⟩) (v := ?_) rfl rfl ?_ ?_; rotate_left; (focus (intro W hW; go_simp; first | done | with_reducible rfl)); simp only [Act.put, List.setIfInBounds_toArray, List.set_cons_zero, List.set_cons_succ])
    obtain ⟨k0, k1, k2, k3, k4, k5⟩ := res_facts HX4.out
    refine wpOrd_exec (o := ⟨_, _, _, _, _, _⟩) rfl rfl (fun K hK => ?_)
    go_simp
    refine hK _ _ (grown4 _ _ _ _ _ _) ?_
    clear hK K
    iterate 1 (refine wpOrd_take (o := ⟨_, _, _, _, _, _⟩) (v := ?_) rfl rfl ?_ ?_; rotate_left; (focus (intro W hW; go_simp; first | done | with_reducible rfl)); simp only [Act.put, List.setIfInBounds_toArray, List.set_cons_zero, List.set_cons_succ])
    refine wpOrd_nil ?_
    have y := set4 HX4.out (.int .i64 o) (.int .i64 n) (.string ⟨t.toArray⟩) (.slice none 0 0)
    have y0 := y.cell 0
    have y1 := y.cell 1
    have y2 := y.cell 2
    have y3 := y.cell 3
    simp at y0 y1 y2 y3
    go_wp2_with fail
    try simp only [Exit.inBlock, Exit.then]
    exact bodyPost_ret (v := .tuple #[.agg #[.int .i64 o, .int .i64 n, .string ⟨t.toArray⟩, .slice none 0 0], .bool true]) (by simp [results, Tryz.results86, go_sem, y0, y1, y2, y3]) rfl (retTm_of _ HBB.out HTM.out HQL.out (bel4 BQ4.out (Nat.le_refl _) _ _ _ _))
  | false => 
    have CN : Hid (Calls Tryz.prog 19 #[.agg #[.int .i64 o, .int .i64 n, .string ⟨t.toArray⟩, .slice none 0 0]] w0 fun e w' => e = .returned (.int .i64 250) ∧ Below w0.heap.size w0 w') := CN
    refine wpOrd_exec (o := ⟨_, _, _, _, _, _⟩) rfl rfl (fun K hK => ?_)
    go_simp
    (with_reducible refine (CN.out).mono ?_)
    rintro _ w4 ⟨rfl, hb4⟩
    go_wp2_with fail
    refine hK _ _ (grown_of hb4) ?_
    clear hK K
    have HX4 := Lib.hid (HXH.out.below hb4 HXH.out.lt)
    have BQ4 := Lib.hid (bel_step BQH.out hb4)
    clear hb4
    iterate 2 (refine wpOrd_take (o := ⟨_, _, _, _, _, _⟩) (v := ?_) rfl rfl ?_ ?_; rotate_left; (focus (intro W hW; go_simp; first | done | with_reducible rfl)); simp only [Act.put, List.setIfInBounds_toArray, List.set_cons_zero, List.set_cons_succ])
    obtain ⟨k0, k1, k2, k3, k4, k5⟩ := res_facts HX4.out
    refine wpOrd_exec (o := ⟨_, _, _, _, _, _⟩) rfl rfl (fun K hK => ?_)
    go_simp
    refine hK _ _ (grown4 _ _ _ _ _ _) ?_
    clear hK K
    iterate 1 (refine wpOrd_take (o := ⟨_, _, _, _, _, _⟩) (v := ?_) rfl rfl ?_ ?_; rotate_left; (focus (intro W hW; go_simp; first | done | with_reducible rfl)); simp only [Act.put, List.setIfInBounds_toArray, List.set_cons_zero, List.set_cons_succ])
    refine wpOrd_nil ?_
    have y := set4 HX4.out (.int .i64 o) (.int .i64 n) (.string ⟨t.toArray⟩) (.slice none 0 0)
    have y0 := y.cell 0
    have y1 := y.cell 1
    have y2 := y.cell 2
    have y3 := y.cell 3
    simp at y0 y1 y2 y3
    go_wp2_with fail
    try simp only [Exit.inBlock, Exit.then]
    exact bodyPost_ret (v := .tuple #[.agg #[.int .i64 o, .int .i64 n, .string ⟨t.toArray⟩, .slice none 0 0], .bool false]) (by simp [results, Tryz.results86, go_sem, y0, y1, y2, y3]) rfl (retTm_of _ HBB.out HTM.out HQL.out (bel4 BQ4.out (Nat.le_refl _) _ _ _ _))
set_option maxHeartbeats 2000000 in
theorem term26_all (w : World) (hW : QpW w) : Calls Tryz.prog 86 #[.string ⟨([97, 108, 108] : List UInt8).toArray⟩] w (RetTm (tmC [97, 108, 108]) w) := by
  have hs : ([97, 108, 108] : List UInt8).length ≤ 512 := by decide
  have ho : i64P 1 := i64P_lit (z := 1) (by omega)
  have hn : i64P 0 := i64P_lit (z := 0) (by omega)
  have ht : ([] : List UInt8).length ≤ 2048 := by decide
  have HTM : Hid (tmC [97, 108, 108] = chkQ ⟨1, 0, [], []⟩) := Lib.hid (by unfold tmC chkQ; rw [okQ_leaf, show Lib.cut [97, 108, 108] [58] = ([97, 108, 108], [], false) by decide]; rfl)
  have B0 := bel_alloc (Below.refl w.heap.size w) (.cells #[.int .i64 0, .int .i64 0, .string ⟨#[]⟩, .slice none 0 0] 25)
  have B1 := Lib.hid (bel_alloc B0 (.cells #[.int .i64 0, .int .i64 0, .string ⟨#[]⟩, .slice none 0 0] 25))
  have X0 := Lib.hid ((Blk.new w 25 #[.int .i64 0, .int .i64 0, .string ⟨#[]⟩, .slice none 0 0]).alloc (.cells #[.int .i64 0, .int .i64 0, .string ⟨#[]⟩, .slice none 0 0] 25))
  have X1 : Hid (Blk ((w.alloc (.cells #[.int .i64 0, .int .i64 0, .string ⟨#[]⟩, .slice none 0 0] 25)).alloc (.cells #[.int .i64 0, .int .i64 0, .string ⟨#[]⟩, .slice none 0 0] 25)) (w.heap.size + 1) 25 #[.int .i64 0, .int .i64 0, .string ⟨#[]⟩, .slice none 0 0]) := Lib.hid (by
    have h := Blk.new (w.alloc (.cells #[.int .i64 0, .int .i64 0, .string ⟨#[]⟩, .slice none 0 0] 25)) 25 #[.int .i64 0, .int .i64 0, .string ⟨#[]⟩, .slice none 0 0]
    rwa [show (w.alloc (.cells #[.int .i64 0, .int .i64 0, .string ⟨#[]⟩, .slice none 0 0] 25)).heap.size = w.heap.size + 1 by simp] at h)
  have HW1 := Lib.hid (hW.keep B1.out)
  have HCUT := Lib.hid (cut26_any [97, 108, 108] [97, 108, 108] [] false (by decide) _ hs HW1.out)
  have HCK := Lib.hid (fun W => check_leaf 1 0 [] ho hn ht W)
  have HQL : Hid (∀ {W : World}, QAt W (fun b => w.heap.size ≤ b) #[.int .i64 1, .int .i64 0, .string ⟨([] : List UInt8).toArray⟩, .slice none 0 0] ⟨1, 0, [], []⟩) := Lib.hid (QAt.leaf ho hn (by omega))
  generalize hbb : okQ ⟨1, 0, [], []⟩ = b at HCK
  have HBB := Lib.hid hbb
  clear hbb
  generalize tmC [97, 108, 108] = tm at *
  clear hW B0 hs
  go_enter Tryz.func86, Tryz.ntmps86
  go_wp2_with fail
  (with_reducible refine (HCUT.out).mono ?_)
  rintro _ w1 ⟨rfl, hw1⟩
  have HB1 := Lib.hid hw1
  have hz1 := HB1.out.size
  simp at hz1
  clear hw1
  have HX0 := Lib.hid (X0.out.below HB1.out X0.out.lt)
  have HX1 := Lib.hid (X1.out.below HB1.out X1.out.lt)
  obtain ⟨k0, k1, k2, k3, k4, k5⟩ := res_facts HX0.out
  obtain ⟨m0, m1, m2, m3, m4, m5⟩ := res_facts HX1.out
  have HBW := Lib.hid ((bel_step B1.out HB1.out).setCell (p := ⟨w.heap.size + 1, 0, none⟩) (show w.heap.size ≤ w.heap.size + 1 by omega) (.int .i64 1))
  have HY1 : Hid (Blk (w1.setCell ⟨w.heap.size + 1, 0, none⟩ (.int .i64 1)) (w.heap.size + 1) 25 #[.int .i64 1, .int .i64 0, .string ⟨#[]⟩, .slice none 0 0]) := Lib.hid (by simpa using HX1.out.set_ 0 (.int .i64 1))
  have HY0 := Lib.hid (HX0.out.far (p := ⟨w.heap.size + 1, 0, none⟩) (by simp) (.int .i64 1))
  go_wp2_with fail
  obtain ⟨wy, hwy⟩ : ∃ wy, wy = w1.setCell ⟨w.heap.size + 1, 0, none⟩ (.int .i64 1) := ⟨_, rfl⟩
  rw [← hwy] at HY1 HY0 HBW ⊢
  clear hwy k0 k1 k2 k3 k4 k5 m0 m1 m2 m3 m4 m5
  refine wp_region_ordR (fun u v => u.grownBy v (some w.heap.size)) (fun _ => World.grownBy.refl _ _) (fun _ _ _ => grown_trans) (by kernel_rfl) (.take 0 (.take 1 (.take 2 (.take 3 (.exec 4 (.take 5 (.take 6 (.exec 7 (.take 8 (.nil)))))))))) (by kernel_rfl) (by kernel_rfl) (by kernel_rfl) ?_
  obtain ⟨w0, hw0⟩ : ∃ w0, w0 = wy.drew := ⟨_, rfl⟩
  have BQ : Below w.heap.size w w0 := by rw [hw0]; exact HBW.out.drew
  have HX : Blk w0 w.heap.size 25 #[.int .i64 0, .int .i64 0, .string ⟨#[]⟩, .slice none 0 0] := by rw [hw0]; exact HY0.out.drew
  have HY : Blk w0 (w.heap.size + 1) 25 #[.int .i64 1, .int .i64 0, .string ⟨#[]⟩, .slice none 0 0] := by rw [hw0]; exact HY1.out.drew
  rw [← hw0]
  clear hw0
  have y0 := fun W (hW : w0.grownBy W (some w.heap.size)) => (show W.cell? ⟨w.heap.size + 1, 0, none⟩ = some (.int .i64 1) from ((HY.grown hW (by simp)).cell 0).trans rfl)
  have y1 := fun W (hW : w0.grownBy W (some w.heap.size)) => (show W.cell? ⟨w.heap.size + 1, 1, none⟩ = some (.int .i64 0) from ((HY.grown hW (by simp)).cell 1).trans rfl)
  have y2 := fun W (hW : w0.grownBy W (some w.heap.size)) => (show W.cell? ⟨w.heap.size + 1, 2, none⟩ = some (.string ⟨#[]⟩) from ((HY.grown hW (by simp)).cell 2).trans rfl)
  have y3 := fun W (hW : w0.grownBy W (some w.heap.size)) => (show W.cell? ⟨w.heap.size + 1, 3, none⟩ = some (.slice none 0 0) from ((HY.grown hW (by simp)).cell 3).trans rfl)
  have HXH := Lib.hid HX
  have BQH := Lib.hid BQ
  clear HX HY BQ
  iterate 4 (refine wpOrd_take (o := ⟨_, _, _, _, _, _⟩) (v := ?_) rfl rfl ?_ ?_; rotate_left; (focus (intro W hW; go_simp; first | done | with_reducible rfl)); simp only [Act.put, List.setIfInBounds_toArray, List.set_cons_zero, List.set_cons_succ])
  clear y0 y1 y2 y3
  have CN := Lib.hid (HCK.out w0)
  cases b with
  | true => 
    have CN : Hid (Calls Tryz.prog 19 #[.agg #[.int .i64 1, .int .i64 0, .string ⟨#[]⟩, .slice none 0 0]] w0 fun e w' => e = .returned (.int .i64 0) ∧ Below w0.heap.size w0 w') := CN
    refine wpOrd_exec (o := ⟨_, _, _, _, _, _⟩) rfl rfl (fun K hK => ?_)
    go_simp
    (with_reducible refine (CN.out).mono ?_)
    rintro _ w4 ⟨rfl, hb4⟩
    go_wp2_with fail
    refine hK _ _ (grown_of hb4) ?_
    clear hK K
    have HX4 := Lib.hid (HXH.out.below hb4 HXH.out.lt)
    have BQ4 := Lib.hid (bel_step BQH.out hb4)
    clear hb4
    iterate 2 (refine wpOrd_take (o := ⟨_, _, _, _, _, _⟩) (v := ?_) rfl rfl ?_ ?_; rotate_left; (focus (intro W hW; go_simp; first | done | with_reducible rfl)); simp only [Act.put, List.setIfInBounds_toArray, List.set_cons_zero, List.set_cons_succ])
    obtain ⟨k0, k1, k2, k3, k4, k5⟩ := res_facts HX4.out
    refine wpOrd_exec (o := ⟨_, _, _, _, _, _⟩) rfl rfl (fun K hK => ?_)
    go_simp
    refine hK _ _ (grown4 _ _ _ _ _ _) ?_
    clear hK K
    iterate 1 (refine wpOrd_take (o := ⟨_, _, _, _, _, _⟩) (v := ?_) rfl rfl ?_ ?_; rotate_left; (focus (intro W hW; go_simp; first | done | with_reducible rfl)); simp only [Act.put, List.setIfInBounds_toArray, List.set_cons_zero, List.set_cons_succ])
    refine wpOrd_nil ?_
    have y := set4 HX4.out (.int .i64 1) (.int .i64 0) (.string ⟨#[]⟩) (.slice none 0 0)
    have y0 := y.cell 0
    have y1 := y.cell 1
    have y2 := y.cell 2
    have y3 := y.cell 3
    simp at y0 y1 y2 y3
    go_wp2_with fail
    try simp only [Exit.inBlock, Exit.then]
    exact bodyPost_ret (v := .tuple #[.agg #[.int .i64 1, .int .i64 0, .string ⟨#[]⟩, .slice none 0 0], .bool true]) (by simp [results, Tryz.results86, go_sem, y0, y1, y2, y3]) rfl (retTm_of _ HBB.out HTM.out HQL.out (bel4 BQ4.out (Nat.le_refl _) _ _ _ _))
  | false => 
    have CN : Hid (Calls Tryz.prog 19 #[.agg #[.int .i64 1, .int .i64 0, .string ⟨#[]⟩, .slice none 0 0]] w0 fun e w' => e = .returned (.int .i64 250) ∧ Below w0.heap.size w0 w') := CN
    refine wpOrd_exec (o := ⟨_, _, _, _, _, _⟩) rfl rfl (fun K hK => ?_)
    go_simp
    (with_reducible refine (CN.out).mono ?_)
    rintro _ w4 ⟨rfl, hb4⟩
    go_wp2_with fail
    refine hK _ _ (grown_of hb4) ?_
    clear hK K
    have HX4 := Lib.hid (HXH.out.below hb4 HXH.out.lt)
    have BQ4 := Lib.hid (bel_step BQH.out hb4)
    clear hb4
    iterate 2 (refine wpOrd_take (o := ⟨_, _, _, _, _, _⟩) (v := ?_) rfl rfl ?_ ?_; rotate_left; (focus (intro W hW; go_simp; first | done | with_reducible rfl)); simp only [Act.put, List.setIfInBounds_toArray, List.set_cons_zero, List.set_cons_succ])
    obtain ⟨k0, k1, k2, k3, k4, k5⟩ := res_facts HX4.out
    refine wpOrd_exec (o := ⟨_, _, _, _, _, _⟩) rfl rfl (fun K hK => ?_)
    go_simp
    refine hK _ _ (grown4 _ _ _ _ _ _) ?_
    clear hK K
    iterate 1 (refine wpOrd_take (o := ⟨_, _, _, _, _, _⟩) (v := ?_) rfl rfl ?_ ?_; rotate_left; (focus (intro W hW; go_simp; first | done | with_reducible rfl)); simp only [Act.put, List.setIfInBounds_toArray, List.set_cons_zero, List.set_cons_succ])
    refine wpOrd_nil ?_
    have y := set4 HX4.out (.int .i64 1) (.int .i64 0) (.string ⟨#[]⟩) (.slice none 0 0)
    have y0 := y.cell 0
    have y1 := y.cell 1
    have y2 := y.cell 2
    have y3 := y.cell 3
    simp at y0 y1 y2 y3
    go_wp2_with fail
    try simp only [Exit.inBlock, Exit.then]
    exact bodyPost_ret (v := .tuple #[.agg #[.int .i64 1, .int .i64 0, .string ⟨#[]⟩, .slice none 0 0], .bool false]) (by simp [results, Tryz.results86, go_sem, y0, y1, y2, y3]) rfl (retTm_of _ HBB.out HTM.out HQL.out (bel4 BQ4.out (Nat.le_refl _) _ _ _ _))
set_option maxHeartbeats 2000000 in
theorem term26_none (w : World) (hW : QpW w) : Calls Tryz.prog 86 #[.string ⟨([110, 111, 110, 101] : List UInt8).toArray⟩] w (RetTm (tmC [110, 111, 110, 101]) w) := by
  have hs : ([110, 111, 110, 101] : List UInt8).length ≤ 512 := by decide
  have ho : i64P 2 := i64P_lit (z := 2) (by omega)
  have hn : i64P 0 := i64P_lit (z := 0) (by omega)
  have ht : ([] : List UInt8).length ≤ 2048 := by decide
  have HTM : Hid (tmC [110, 111, 110, 101] = chkQ ⟨2, 0, [], []⟩) := Lib.hid (by unfold tmC chkQ; rw [okQ_leaf, show Lib.cut [110, 111, 110, 101] [58] = ([110, 111, 110, 101], [], false) by decide]; rfl)
  have B0 := bel_alloc (Below.refl w.heap.size w) (.cells #[.int .i64 0, .int .i64 0, .string ⟨#[]⟩, .slice none 0 0] 25)
  have B1 := Lib.hid (bel_alloc B0 (.cells #[.int .i64 0, .int .i64 0, .string ⟨#[]⟩, .slice none 0 0] 25))
  have X0 := Lib.hid ((Blk.new w 25 #[.int .i64 0, .int .i64 0, .string ⟨#[]⟩, .slice none 0 0]).alloc (.cells #[.int .i64 0, .int .i64 0, .string ⟨#[]⟩, .slice none 0 0] 25))
  have X1 : Hid (Blk ((w.alloc (.cells #[.int .i64 0, .int .i64 0, .string ⟨#[]⟩, .slice none 0 0] 25)).alloc (.cells #[.int .i64 0, .int .i64 0, .string ⟨#[]⟩, .slice none 0 0] 25)) (w.heap.size + 1) 25 #[.int .i64 0, .int .i64 0, .string ⟨#[]⟩, .slice none 0 0]) := Lib.hid (by
    have h := Blk.new (w.alloc (.cells #[.int .i64 0, .int .i64 0, .string ⟨#[]⟩, .slice none 0 0] 25)) 25 #[.int .i64 0, .int .i64 0, .string ⟨#[]⟩, .slice none 0 0]
    rwa [show (w.alloc (.cells #[.int .i64 0, .int .i64 0, .string ⟨#[]⟩, .slice none 0 0] 25)).heap.size = w.heap.size + 1 by simp] at h)
  have HW1 := Lib.hid (hW.keep B1.out)
  have HCUT := Lib.hid (cut26_any [110, 111, 110, 101] [110, 111, 110, 101] [] false (by decide) _ hs HW1.out)
  have HCK := Lib.hid (fun W => check_leaf 2 0 [] ho hn ht W)
  have HQL : Hid (∀ {W : World}, QAt W (fun b => w.heap.size ≤ b) #[.int .i64 2, .int .i64 0, .string ⟨([] : List UInt8).toArray⟩, .slice none 0 0] ⟨2, 0, [], []⟩) := Lib.hid (QAt.leaf ho hn (by omega))
  generalize hbb : okQ ⟨2, 0, [], []⟩ = b at HCK
  have HBB := Lib.hid hbb
  clear hbb
  generalize tmC [110, 111, 110, 101] = tm at *
  clear hW B0 hs
  go_enter Tryz.func86, Tryz.ntmps86
  go_wp2_with fail
  (with_reducible refine (HCUT.out).mono ?_)
  rintro _ w1 ⟨rfl, hw1⟩
  have HB1 := Lib.hid hw1
  have hz1 := HB1.out.size
  simp at hz1
  clear hw1
  have HX0 := Lib.hid (X0.out.below HB1.out X0.out.lt)
  have HX1 := Lib.hid (X1.out.below HB1.out X1.out.lt)
  obtain ⟨k0, k1, k2, k3, k4, k5⟩ := res_facts HX0.out
  obtain ⟨m0, m1, m2, m3, m4, m5⟩ := res_facts HX1.out
  have HBW := Lib.hid ((bel_step B1.out HB1.out).setCell (p := ⟨w.heap.size + 1, 0, none⟩) (show w.heap.size ≤ w.heap.size + 1 by omega) (.int .i64 2))
  have HY1 : Hid (Blk (w1.setCell ⟨w.heap.size + 1, 0, none⟩ (.int .i64 2)) (w.heap.size + 1) 25 #[.int .i64 2, .int .i64 0, .string ⟨#[]⟩, .slice none 0 0]) := Lib.hid (by simpa using HX1.out.set_ 0 (.int .i64 2))
  have HY0 := Lib.hid (HX0.out.far (p := ⟨w.heap.size + 1, 0, none⟩) (by simp) (.int .i64 2))
  go_wp2_with fail
  obtain ⟨wy, hwy⟩ : ∃ wy, wy = w1.setCell ⟨w.heap.size + 1, 0, none⟩ (.int .i64 2) := ⟨_, rfl⟩
  rw [← hwy] at HY1 HY0 HBW ⊢
  clear hwy k0 k1 k2 k3 k4 k5 m0 m1 m2 m3 m4 m5
  refine wp_region_ordR (fun u v => u.grownBy v (some w.heap.size)) (fun _ => World.grownBy.refl _ _) (fun _ _ _ => grown_trans) (by kernel_rfl) (.take 0 (.take 1 (.take 2 (.take 3 (.exec 4 (.take 5 (.take 6 (.exec 7 (.take 8 (.nil)))))))))) (by kernel_rfl) (by kernel_rfl) (by kernel_rfl) ?_
  obtain ⟨w0, hw0⟩ : ∃ w0, w0 = wy.drew := ⟨_, rfl⟩
  have BQ : Below w.heap.size w w0 := by rw [hw0]; exact HBW.out.drew
  have HX : Blk w0 w.heap.size 25 #[.int .i64 0, .int .i64 0, .string ⟨#[]⟩, .slice none 0 0] := by rw [hw0]; exact HY0.out.drew
  have HY : Blk w0 (w.heap.size + 1) 25 #[.int .i64 2, .int .i64 0, .string ⟨#[]⟩, .slice none 0 0] := by rw [hw0]; exact HY1.out.drew
  rw [← hw0]
  clear hw0
  have y0 := fun W (hW : w0.grownBy W (some w.heap.size)) => (show W.cell? ⟨w.heap.size + 1, 0, none⟩ = some (.int .i64 2) from ((HY.grown hW (by simp)).cell 0).trans rfl)
  have y1 := fun W (hW : w0.grownBy W (some w.heap.size)) => (show W.cell? ⟨w.heap.size + 1, 1, none⟩ = some (.int .i64 0) from ((HY.grown hW (by simp)).cell 1).trans rfl)
  have y2 := fun W (hW : w0.grownBy W (some w.heap.size)) => (show W.cell? ⟨w.heap.size + 1, 2, none⟩ = some (.string ⟨#[]⟩) from ((HY.grown hW (by simp)).cell 2).trans rfl)
  have y3 := fun W (hW : w0.grownBy W (some w.heap.size)) => (show W.cell? ⟨w.heap.size + 1, 3, none⟩ = some (.slice none 0 0) from ((HY.grown hW (by simp)).cell 3).trans rfl)
  have HXH := Lib.hid HX
  have BQH := Lib.hid BQ
  clear HX HY BQ
  iterate 4 (refine wpOrd_take (o := ⟨_, _, _, _, _, _⟩) (v := ?_) rfl rfl ?_ ?_; rotate_left; (focus (intro W hW; go_simp; first | done | with_reducible rfl)); simp only [Act.put, List.setIfInBounds_toArray, List.set_cons_zero, List.set_cons_succ])
  clear y0 y1 y2 y3
  have CN := Lib.hid (HCK.out w0)
  cases b with
  | true => 
    have CN : Hid (Calls Tryz.prog 19 #[.agg #[.int .i64 2, .int .i64 0, .string ⟨#[]⟩, .slice none 0 0]] w0 fun e w' => e = .returned (.int .i64 0) ∧ Below w0.heap.size w0 w') := CN
    refine wpOrd_exec (o := ⟨_, _, _, _, _, _⟩) rfl rfl (fun K hK => ?_)
    go_simp
    (with_reducible refine (CN.out).mono ?_)
    rintro _ w4 ⟨rfl, hb4⟩
    go_wp2_with fail
    refine hK _ _ (grown_of hb4) ?_
    clear hK K
    have HX4 := Lib.hid (HXH.out.below hb4 HXH.out.lt)
    have BQ4 := Lib.hid (bel_step BQH.out hb4)
    clear hb4
    iterate 2 (refine wpOrd_take (o := ⟨_, _, _, _, _, _⟩) (v := ?_) rfl rfl ?_ ?_; rotate_left; (focus (intro W hW; go_simp; first | done | with_reducible rfl)); simp only [Act.put, List.setIfInBounds_toArray, List.set_cons_zero, List.set_cons_succ])
    obtain ⟨k0, k1, k2, k3, k4, k5⟩ := res_facts HX4.out
    refine wpOrd_exec (o := ⟨_, _, _, _, _, _⟩) rfl rfl (fun K hK => ?_)
    go_simp
    refine hK _ _ (grown4 _ _ _ _ _ _) ?_
    clear hK K
    iterate 1 (refine wpOrd_take (o := ⟨_, _, _, _, _, _⟩) (v := ?_) rfl rfl ?_ ?_; rotate_left; (focus (intro W hW; go_simp; first | done | with_reducible rfl)); simp only [Act.put, List.setIfInBounds_toArray, List.set_cons_zero, List.set_cons_succ])
    refine wpOrd_nil ?_
    have y := set4 HX4.out (.int .i64 2) (.int .i64 0) (.string ⟨#[]⟩) (.slice none 0 0)
    have y0 := y.cell 0
    have y1 := y.cell 1
    have y2 := y.cell 2
    have y3 := y.cell 3
    simp at y0 y1 y2 y3
    go_wp2_with fail
    try simp only [Exit.inBlock, Exit.then]
    exact bodyPost_ret (v := .tuple #[.agg #[.int .i64 2, .int .i64 0, .string ⟨#[]⟩, .slice none 0 0], .bool true]) (by simp [results, Tryz.results86, go_sem, y0, y1, y2, y3]) rfl (retTm_of _ HBB.out HTM.out HQL.out (bel4 BQ4.out (Nat.le_refl _) _ _ _ _))
  | false => 
    have CN : Hid (Calls Tryz.prog 19 #[.agg #[.int .i64 2, .int .i64 0, .string ⟨#[]⟩, .slice none 0 0]] w0 fun e w' => e = .returned (.int .i64 250) ∧ Below w0.heap.size w0 w') := CN
    refine wpOrd_exec (o := ⟨_, _, _, _, _, _⟩) rfl rfl (fun K hK => ?_)
    go_simp
    (with_reducible refine (CN.out).mono ?_)
    rintro _ w4 ⟨rfl, hb4⟩
    go_wp2_with fail
    refine hK _ _ (grown_of hb4) ?_
    clear hK K
    have HX4 := Lib.hid (HXH.out.below hb4 HXH.out.lt)
    have BQ4 := Lib.hid (bel_step BQH.out hb4)
    clear hb4
    iterate 2 (refine wpOrd_take (o := ⟨_, _, _, _, _, _⟩) (v := ?_) rfl rfl ?_ ?_; rotate_left; (focus (intro W hW; go_simp; first | done | with_reducible rfl)); simp only [Act.put, List.setIfInBounds_toArray, List.set_cons_zero, List.set_cons_succ])
    obtain ⟨k0, k1, k2, k3, k4, k5⟩ := res_facts HX4.out
    refine wpOrd_exec (o := ⟨_, _, _, _, _, _⟩) rfl rfl (fun K hK => ?_)
    go_simp
    refine hK _ _ (grown4 _ _ _ _ _ _) ?_
    clear hK K
    iterate 1 (refine wpOrd_take (o := ⟨_, _, _, _, _, _⟩) (v := ?_) rfl rfl ?_ ?_; rotate_left; (focus (intro W hW; go_simp; first | done | with_reducible rfl)); simp only [Act.put, List.setIfInBounds_toArray, List.set_cons_zero, List.set_cons_succ])
    refine wpOrd_nil ?_
    have y := set4 HX4.out (.int .i64 2) (.int .i64 0) (.string ⟨#[]⟩) (.slice none 0 0)
    have y0 := y.cell 0
    have y1 := y.cell 1
    have y2 := y.cell 2
    have y3 := y.cell 3
    simp at y0 y1 y2 y3
    go_wp2_with fail
    try simp only [Exit.inBlock, Exit.then]
    exact bodyPost_ret (v := .tuple #[.agg #[.int .i64 2, .int .i64 0, .string ⟨#[]⟩, .slice none 0 0], .bool false]) (by simp [results, Tryz.results86, go_sem, y0, y1, y2, y3]) rfl (retTm_of _ HBB.out HTM.out HQL.out (bel4 BQ4.out (Nat.le_refl _) _ _ _ _))
set_option maxHeartbeats 2000000 in
theorem term26_unread (w : World) (hW : QpW w) : Calls Tryz.prog 86 #[.string ⟨([117, 110, 114, 101, 97, 100] : List UInt8).toArray⟩] w (RetTm (tmC [117, 110, 114, 101, 97, 100]) w) := by
  have hs : ([117, 110, 114, 101, 97, 100] : List UInt8).length ≤ 512 := by decide
  have ho : i64P 9 := i64P_lit (z := 9) (by omega)
  have hn : i64P 0 := i64P_lit (z := 0) (by omega)
  have ht : ([] : List UInt8).length ≤ 2048 := by decide
  have HTM : Hid (tmC [117, 110, 114, 101, 97, 100] = chkQ ⟨9, 0, [], []⟩) := Lib.hid (by unfold tmC chkQ; rw [okQ_leaf, show Lib.cut [117, 110, 114, 101, 97, 100] [58] = ([117, 110, 114, 101, 97, 100], [], false) by decide]; rfl)
  have B0 := bel_alloc (Below.refl w.heap.size w) (.cells #[.int .i64 0, .int .i64 0, .string ⟨#[]⟩, .slice none 0 0] 25)
  have B1 := Lib.hid (bel_alloc B0 (.cells #[.int .i64 0, .int .i64 0, .string ⟨#[]⟩, .slice none 0 0] 25))
  have X0 := Lib.hid ((Blk.new w 25 #[.int .i64 0, .int .i64 0, .string ⟨#[]⟩, .slice none 0 0]).alloc (.cells #[.int .i64 0, .int .i64 0, .string ⟨#[]⟩, .slice none 0 0] 25))
  have X1 : Hid (Blk ((w.alloc (.cells #[.int .i64 0, .int .i64 0, .string ⟨#[]⟩, .slice none 0 0] 25)).alloc (.cells #[.int .i64 0, .int .i64 0, .string ⟨#[]⟩, .slice none 0 0] 25)) (w.heap.size + 1) 25 #[.int .i64 0, .int .i64 0, .string ⟨#[]⟩, .slice none 0 0]) := Lib.hid (by
    have h := Blk.new (w.alloc (.cells #[.int .i64 0, .int .i64 0, .string ⟨#[]⟩, .slice none 0 0] 25)) 25 #[.int .i64 0, .int .i64 0, .string ⟨#[]⟩, .slice none 0 0]
    rwa [show (w.alloc (.cells #[.int .i64 0, .int .i64 0, .string ⟨#[]⟩, .slice none 0 0] 25)).heap.size = w.heap.size + 1 by simp] at h)
  have HW1 := Lib.hid (hW.keep B1.out)
  have HCUT := Lib.hid (cut26_any [117, 110, 114, 101, 97, 100] [117, 110, 114, 101, 97, 100] [] false (by decide) _ hs HW1.out)
  have HCK := Lib.hid (fun W => check_leaf 9 0 [] ho hn ht W)
  have HQL : Hid (∀ {W : World}, QAt W (fun b => w.heap.size ≤ b) #[.int .i64 9, .int .i64 0, .string ⟨([] : List UInt8).toArray⟩, .slice none 0 0] ⟨9, 0, [], []⟩) := Lib.hid (QAt.leaf ho hn (by omega))
  generalize hbb : okQ ⟨9, 0, [], []⟩ = b at HCK
  have HBB := Lib.hid hbb
  clear hbb
  generalize tmC [117, 110, 114, 101, 97, 100] = tm at *
  clear hW B0 hs
  go_enter Tryz.func86, Tryz.ntmps86
  go_wp2_with fail
  (with_reducible refine (HCUT.out).mono ?_)
  rintro _ w1 ⟨rfl, hw1⟩
  have HB1 := Lib.hid hw1
  have hz1 := HB1.out.size
  simp at hz1
  clear hw1
  have HX0 := Lib.hid (X0.out.below HB1.out X0.out.lt)
  have HX1 := Lib.hid (X1.out.below HB1.out X1.out.lt)
  obtain ⟨k0, k1, k2, k3, k4, k5⟩ := res_facts HX0.out
  obtain ⟨m0, m1, m2, m3, m4, m5⟩ := res_facts HX1.out
  have HBW := Lib.hid ((bel_step B1.out HB1.out).setCell (p := ⟨w.heap.size + 1, 0, none⟩) (show w.heap.size ≤ w.heap.size + 1 by omega) (.int .i64 9))
  have HY1 : Hid (Blk (w1.setCell ⟨w.heap.size + 1, 0, none⟩ (.int .i64 9)) (w.heap.size + 1) 25 #[.int .i64 9, .int .i64 0, .string ⟨#[]⟩, .slice none 0 0]) := Lib.hid (by simpa using HX1.out.set_ 0 (.int .i64 9))
  have HY0 := Lib.hid (HX0.out.far (p := ⟨w.heap.size + 1, 0, none⟩) (by simp) (.int .i64 9))
  go_wp2_with fail
  obtain ⟨wy, hwy⟩ : ∃ wy, wy = w1.setCell ⟨w.heap.size + 1, 0, none⟩ (.int .i64 9) := ⟨_, rfl⟩
  rw [← hwy] at HY1 HY0 HBW ⊢
  clear hwy k0 k1 k2 k3 k4 k5 m0 m1 m2 m3 m4 m5
  refine wp_region_ordR (fun u v => u.grownBy v (some w.heap.size)) (fun _ => World.grownBy.refl _ _) (fun _ _ _ => grown_trans) (by kernel_rfl) (.take 0 (.take 1 (.take 2 (.take 3 (.exec 4 (.take 5 (.take 6 (.exec 7 (.take 8 (.nil)))))))))) (by kernel_rfl) (by kernel_rfl) (by kernel_rfl) ?_
  obtain ⟨w0, hw0⟩ : ∃ w0, w0 = wy.drew := ⟨_, rfl⟩
  have BQ : Below w.heap.size w w0 := by rw [hw0]; exact HBW.out.drew
  have HX : Blk w0 w.heap.size 25 #[.int .i64 0, .int .i64 0, .string ⟨#[]⟩, .slice none 0 0] := by rw [hw0]; exact HY0.out.drew
  have HY : Blk w0 (w.heap.size + 1) 25 #[.int .i64 9, .int .i64 0, .string ⟨#[]⟩, .slice none 0 0] := by rw [hw0]; exact HY1.out.drew
  rw [← hw0]
  clear hw0
  have y0 := fun W (hW : w0.grownBy W (some w.heap.size)) => (show W.cell? ⟨w.heap.size + 1, 0, none⟩ = some (.int .i64 9) from ((HY.grown hW (by simp)).cell 0).trans rfl)
  have y1 := fun W (hW : w0.grownBy W (some w.heap.size)) => (show W.cell? ⟨w.heap.size + 1, 1, none⟩ = some (.int .i64 0) from ((HY.grown hW (by simp)).cell 1).trans rfl)
  have y2 := fun W (hW : w0.grownBy W (some w.heap.size)) => (show W.cell? ⟨w.heap.size + 1, 2, none⟩ = some (.string ⟨#[]⟩) from ((HY.grown hW (by simp)).cell 2).trans rfl)
  have y3 := fun W (hW : w0.grownBy W (some w.heap.size)) => (show W.cell? ⟨w.heap.size + 1, 3, none⟩ = some (.slice none 0 0) from ((HY.grown hW (by simp)).cell 3).trans rfl)
  have HXH := Lib.hid HX
  have BQH := Lib.hid BQ
  clear HX HY BQ
  iterate 4 (refine wpOrd_take (o := ⟨_, _, _, _, _, _⟩) (v := ?_) rfl rfl ?_ ?_; rotate_left; (focus (intro W hW; go_simp; first | done | with_reducible rfl)); simp only [Act.put, List.setIfInBounds_toArray, List.set_cons_zero, List.set_cons_succ])
  clear y0 y1 y2 y3
  have CN := Lib.hid (HCK.out w0)
  cases b with
  | true => 
    have CN : Hid (Calls Tryz.prog 19 #[.agg #[.int .i64 9, .int .i64 0, .string ⟨#[]⟩, .slice none 0 0]] w0 fun e w' => e = .returned (.int .i64 0) ∧ Below w0.heap.size w0 w') := CN
    refine wpOrd_exec (o := ⟨_, _, _, _, _, _⟩) rfl rfl (fun K hK => ?_)
    go_simp
    (with_reducible refine (CN.out).mono ?_)
    rintro _ w4 ⟨rfl, hb4⟩
    go_wp2_with fail
    refine hK _ _ (grown_of hb4) ?_
    clear hK K
    have HX4 := Lib.hid (HXH.out.below hb4 HXH.out.lt)
    have BQ4 := Lib.hid (bel_step BQH.out hb4)
    clear hb4
    iterate 2 (refine wpOrd_take (o := ⟨_, _, _, _, _, _⟩) (v := ?_) rfl rfl ?_ ?_; rotate_left; (focus (intro W hW; go_simp; first | done | with_reducible rfl)); simp only [Act.put, List.setIfInBounds_toArray, List.set_cons_zero, List.set_cons_succ])
    obtain ⟨k0, k1, k2, k3, k4, k5⟩ := res_facts HX4.out
    refine wpOrd_exec (o := ⟨_, _, _, _, _, _⟩) rfl rfl (fun K hK => ?_)
    go_simp
    refine hK _ _ (grown4 _ _ _ _ _ _) ?_
    clear hK K
    iterate 1 (refine wpOrd_take (o := ⟨_, _, _, _, _, _⟩) (v := ?_) rfl rfl ?_ ?_; rotate_left; (focus (intro W hW; go_simp; first | done | with_reducible rfl)); simp only [Act.put, List.setIfInBounds_toArray, List.set_cons_zero, List.set_cons_succ])
    refine wpOrd_nil ?_
    have y := set4 HX4.out (.int .i64 9) (.int .i64 0) (.string ⟨#[]⟩) (.slice none 0 0)
    have y0 := y.cell 0
    have y1 := y.cell 1
    have y2 := y.cell 2
    have y3 := y.cell 3
    simp at y0 y1 y2 y3
    go_wp2_with fail
    try simp only [Exit.inBlock, Exit.then]
    exact bodyPost_ret (v := .tuple #[.agg #[.int .i64 9, .int .i64 0, .string ⟨#[]⟩, .slice none 0 0], .bool true]) (by simp [results, Tryz.results86, go_sem, y0, y1, y2, y3]) rfl (retTm_of _ HBB.out HTM.out HQL.out (bel4 BQ4.out (Nat.le_refl _) _ _ _ _))
  | false => 
    have CN : Hid (Calls Tryz.prog 19 #[.agg #[.int .i64 9, .int .i64 0, .string ⟨#[]⟩, .slice none 0 0]] w0 fun e w' => e = .returned (.int .i64 250) ∧ Below w0.heap.size w0 w') := CN
    refine wpOrd_exec (o := ⟨_, _, _, _, _, _⟩) rfl rfl (fun K hK => ?_)
    go_simp
    (with_reducible refine (CN.out).mono ?_)
    rintro _ w4 ⟨rfl, hb4⟩
    go_wp2_with fail
    refine hK _ _ (grown_of hb4) ?_
    clear hK K
    have HX4 := Lib.hid (HXH.out.below hb4 HXH.out.lt)
    have BQ4 := Lib.hid (bel_step BQH.out hb4)
    clear hb4
    iterate 2 (refine wpOrd_take (o := ⟨_, _, _, _, _, _⟩) (v := ?_) rfl rfl ?_ ?_; rotate_left; (focus (intro W hW; go_simp; first | done | with_reducible rfl)); simp only [Act.put, List.setIfInBounds_toArray, List.set_cons_zero, List.set_cons_succ])
    obtain ⟨k0, k1, k2, k3, k4, k5⟩ := res_facts HX4.out
    refine wpOrd_exec (o := ⟨_, _, _, _, _, _⟩) rfl rfl (fun K hK => ?_)
    go_simp
    refine hK _ _ (grown4 _ _ _ _ _ _) ?_
    clear hK K
    iterate 1 (refine wpOrd_take (o := ⟨_, _, _, _, _, _⟩) (v := ?_) rfl rfl ?_ ?_; rotate_left; (focus (intro W hW; go_simp; first | done | with_reducible rfl)); simp only [Act.put, List.setIfInBounds_toArray, List.set_cons_zero, List.set_cons_succ])
    refine wpOrd_nil ?_
    have y := set4 HX4.out (.int .i64 9) (.int .i64 0) (.string ⟨#[]⟩) (.slice none 0 0)
    have y0 := y.cell 0
    have y1 := y.cell 1
    have y2 := y.cell 2
    have y3 := y.cell 3
    simp at y0 y1 y2 y3
    go_wp2_with fail
    try simp only [Exit.inBlock, Exit.then]
    exact bodyPost_ret (v := .tuple #[.agg #[.int .i64 9, .int .i64 0, .string ⟨#[]⟩, .slice none 0 0], .bool false]) (by simp [results, Tryz.results86, go_sem, y0, y1, y2, y3]) rfl (retTm_of _ HBB.out HTM.out HQL.out (bel4 BQ4.out (Nat.le_refl _) _ _ _ _))
set_option maxHeartbeats 2000000 in
theorem term26_starred (w : World) (hW : QpW w) : Calls Tryz.prog 86 #[.string ⟨([115, 116, 97, 114, 114, 101, 100] : List UInt8).toArray⟩] w (RetTm (tmC [115, 116, 97, 114, 114, 101, 100]) w) := by
  have hs : ([115, 116, 97, 114, 114, 101, 100] : List UInt8).length ≤ 512 := by decide
  have ho : i64P 10 := i64P_lit (z := 10) (by omega)
  have hn : i64P 0 := i64P_lit (z := 0) (by omega)
  have ht : ([] : List UInt8).length ≤ 2048 := by decide
  have HTM : Hid (tmC [115, 116, 97, 114, 114, 101, 100] = chkQ ⟨10, 0, [], []⟩) := Lib.hid (by unfold tmC chkQ; rw [okQ_leaf, show Lib.cut [115, 116, 97, 114, 114, 101, 100] [58] = ([115, 116, 97, 114, 114, 101, 100], [], false) by decide]; rfl)
  have B0 := bel_alloc (Below.refl w.heap.size w) (.cells #[.int .i64 0, .int .i64 0, .string ⟨#[]⟩, .slice none 0 0] 25)
  have B1 := Lib.hid (bel_alloc B0 (.cells #[.int .i64 0, .int .i64 0, .string ⟨#[]⟩, .slice none 0 0] 25))
  have X0 := Lib.hid ((Blk.new w 25 #[.int .i64 0, .int .i64 0, .string ⟨#[]⟩, .slice none 0 0]).alloc (.cells #[.int .i64 0, .int .i64 0, .string ⟨#[]⟩, .slice none 0 0] 25))
  have X1 : Hid (Blk ((w.alloc (.cells #[.int .i64 0, .int .i64 0, .string ⟨#[]⟩, .slice none 0 0] 25)).alloc (.cells #[.int .i64 0, .int .i64 0, .string ⟨#[]⟩, .slice none 0 0] 25)) (w.heap.size + 1) 25 #[.int .i64 0, .int .i64 0, .string ⟨#[]⟩, .slice none 0 0]) := Lib.hid (by
    have h := Blk.new (w.alloc (.cells #[.int .i64 0, .int .i64 0, .string ⟨#[]⟩, .slice none 0 0] 25)) 25 #[.int .i64 0, .int .i64 0, .string ⟨#[]⟩, .slice none 0 0]
    rwa [show (w.alloc (.cells #[.int .i64 0, .int .i64 0, .string ⟨#[]⟩, .slice none 0 0] 25)).heap.size = w.heap.size + 1 by simp] at h)
  have HW1 := Lib.hid (hW.keep B1.out)
  have HCUT := Lib.hid (cut26_any [115, 116, 97, 114, 114, 101, 100] [115, 116, 97, 114, 114, 101, 100] [] false (by decide) _ hs HW1.out)
  have HCK := Lib.hid (fun W => check_leaf 10 0 [] ho hn ht W)
  have HQL : Hid (∀ {W : World}, QAt W (fun b => w.heap.size ≤ b) #[.int .i64 10, .int .i64 0, .string ⟨([] : List UInt8).toArray⟩, .slice none 0 0] ⟨10, 0, [], []⟩) := Lib.hid (QAt.leaf ho hn (by omega))
  generalize hbb : okQ ⟨10, 0, [], []⟩ = b at HCK
  have HBB := Lib.hid hbb
  clear hbb
  generalize tmC [115, 116, 97, 114, 114, 101, 100] = tm at *
  clear hW B0 hs
  go_enter Tryz.func86, Tryz.ntmps86
  go_wp2_with fail
  (with_reducible refine (HCUT.out).mono ?_)
  rintro _ w1 ⟨rfl, hw1⟩
  have HB1 := Lib.hid hw1
  have hz1 := HB1.out.size
  simp at hz1
  clear hw1
  have HX0 := Lib.hid (X0.out.below HB1.out X0.out.lt)
  have HX1 := Lib.hid (X1.out.below HB1.out X1.out.lt)
  obtain ⟨k0, k1, k2, k3, k4, k5⟩ := res_facts HX0.out
  obtain ⟨m0, m1, m2, m3, m4, m5⟩ := res_facts HX1.out
  have HBW := Lib.hid ((bel_step B1.out HB1.out).setCell (p := ⟨w.heap.size + 1, 0, none⟩) (show w.heap.size ≤ w.heap.size + 1 by omega) (.int .i64 10))
  have HY1 : Hid (Blk (w1.setCell ⟨w.heap.size + 1, 0, none⟩ (.int .i64 10)) (w.heap.size + 1) 25 #[.int .i64 10, .int .i64 0, .string ⟨#[]⟩, .slice none 0 0]) := Lib.hid (by simpa using HX1.out.set_ 0 (.int .i64 10))
  have HY0 := Lib.hid (HX0.out.far (p := ⟨w.heap.size + 1, 0, none⟩) (by simp) (.int .i64 10))
  go_wp2_with fail
  obtain ⟨wy, hwy⟩ : ∃ wy, wy = w1.setCell ⟨w.heap.size + 1, 0, none⟩ (.int .i64 10) := ⟨_, rfl⟩
  rw [← hwy] at HY1 HY0 HBW ⊢
  clear hwy k0 k1 k2 k3 k4 k5 m0 m1 m2 m3 m4 m5
  refine wp_region_ordR (fun u v => u.grownBy v (some w.heap.size)) (fun _ => World.grownBy.refl _ _) (fun _ _ _ => grown_trans) (by kernel_rfl) (.take 0 (.take 1 (.take 2 (.take 3 (.exec 4 (.take 5 (.take 6 (.exec 7 (.take 8 (.nil)))))))))) (by kernel_rfl) (by kernel_rfl) (by kernel_rfl) ?_
  obtain ⟨w0, hw0⟩ : ∃ w0, w0 = wy.drew := ⟨_, rfl⟩
  have BQ : Below w.heap.size w w0 := by rw [hw0]; exact HBW.out.drew
  have HX : Blk w0 w.heap.size 25 #[.int .i64 0, .int .i64 0, .string ⟨#[]⟩, .slice none 0 0] := by rw [hw0]; exact HY0.out.drew
  have HY : Blk w0 (w.heap.size + 1) 25 #[.int .i64 10, .int .i64 0, .string ⟨#[]⟩, .slice none 0 0] := by rw [hw0]; exact HY1.out.drew
  rw [← hw0]
  clear hw0
  have y0 := fun W (hW : w0.grownBy W (some w.heap.size)) => (show W.cell? ⟨w.heap.size + 1, 0, none⟩ = some (.int .i64 10) from ((HY.grown hW (by simp)).cell 0).trans rfl)
  have y1 := fun W (hW : w0.grownBy W (some w.heap.size)) => (show W.cell? ⟨w.heap.size + 1, 1, none⟩ = some (.int .i64 0) from ((HY.grown hW (by simp)).cell 1).trans rfl)
  have y2 := fun W (hW : w0.grownBy W (some w.heap.size)) => (show W.cell? ⟨w.heap.size + 1, 2, none⟩ = some (.string ⟨#[]⟩) from ((HY.grown hW (by simp)).cell 2).trans rfl)
  have y3 := fun W (hW : w0.grownBy W (some w.heap.size)) => (show W.cell? ⟨w.heap.size + 1, 3, none⟩ = some (.slice none 0 0) from ((HY.grown hW (by simp)).cell 3).trans rfl)
  have HXH := Lib.hid HX
  have BQH := Lib.hid BQ
  clear HX HY BQ
  iterate 4 (refine wpOrd_take (o := ⟨_, _, _, _, _, _⟩) (v := ?_) rfl rfl ?_ ?_; rotate_left; (focus (intro W hW; go_simp; first | done | with_reducible rfl)); simp only [Act.put, List.setIfInBounds_toArray, List.set_cons_zero, List.set_cons_succ])
  clear y0 y1 y2 y3
  have CN := Lib.hid (HCK.out w0)
  cases b with
  | true => 
    have CN : Hid (Calls Tryz.prog 19 #[.agg #[.int .i64 10, .int .i64 0, .string ⟨#[]⟩, .slice none 0 0]] w0 fun e w' => e = .returned (.int .i64 0) ∧ Below w0.heap.size w0 w') := CN
    refine wpOrd_exec (o := ⟨_, _, _, _, _, _⟩) rfl rfl (fun K hK => ?_)
    go_simp
    (with_reducible refine (CN.out).mono ?_)
    rintro _ w4 ⟨rfl, hb4⟩
    go_wp2_with fail
    refine hK _ _ (grown_of hb4) ?_
    clear hK K
    have HX4 := Lib.hid (HXH.out.below hb4 HXH.out.lt)
    have BQ4 := Lib.hid (bel_step BQH.out hb4)
    clear hb4
    iterate 2 (refine wpOrd_take (o := ⟨_, _, _, _, _, _⟩) (v := ?_) rfl rfl ?_ ?_; rotate_left; (focus (intro W hW; go_simp; first | done | with_reducible rfl)); simp only [Act.put, List.setIfInBounds_toArray, List.set_cons_zero, List.set_cons_succ])
    obtain ⟨k0, k1, k2, k3, k4, k5⟩ := res_facts HX4.out
    refine wpOrd_exec (o := ⟨_, _, _, _, _, _⟩) rfl rfl (fun K hK => ?_)
    go_simp
    refine hK _ _ (grown4 _ _ _ _ _ _) ?_
    clear hK K
    iterate 1 (refine wpOrd_take (o := ⟨_, _, _, _, _, _⟩) (v := ?_) rfl rfl ?_ ?_; rotate_left; (focus (intro W hW; go_simp; first | done | with_reducible rfl)); simp only [Act.put, List.setIfInBounds_toArray, List.set_cons_zero, List.set_cons_succ])
    refine wpOrd_nil ?_
    have y := set4 HX4.out (.int .i64 10) (.int .i64 0) (.string ⟨#[]⟩) (.slice none 0 0)
    have y0 := y.cell 0
    have y1 := y.cell 1
    have y2 := y.cell 2
    have y3 := y.cell 3
    simp at y0 y1 y2 y3
    go_wp2_with fail
    try simp only [Exit.inBlock, Exit.then]
    exact bodyPost_ret (v := .tuple #[.agg #[.int .i64 10, .int .i64 0, .string ⟨#[]⟩, .slice none 0 0], .bool true]) (by simp [results, Tryz.results86, go_sem, y0, y1, y2, y3]) rfl (retTm_of _ HBB.out HTM.out HQL.out (bel4 BQ4.out (Nat.le_refl _) _ _ _ _))
  | false => 
    have CN : Hid (Calls Tryz.prog 19 #[.agg #[.int .i64 10, .int .i64 0, .string ⟨#[]⟩, .slice none 0 0]] w0 fun e w' => e = .returned (.int .i64 250) ∧ Below w0.heap.size w0 w') := CN
    refine wpOrd_exec (o := ⟨_, _, _, _, _, _⟩) rfl rfl (fun K hK => ?_)
    go_simp
    (with_reducible refine (CN.out).mono ?_)
    rintro _ w4 ⟨rfl, hb4⟩
    go_wp2_with fail
    refine hK _ _ (grown_of hb4) ?_
    clear hK K
    have HX4 := Lib.hid (HXH.out.below hb4 HXH.out.lt)
    have BQ4 := Lib.hid (bel_step BQH.out hb4)
    clear hb4
    iterate 2 (refine wpOrd_take (o := ⟨_, _, _, _, _, _⟩) (v := ?_) rfl rfl ?_ ?_; rotate_left; (focus (intro W hW; go_simp; first | done | with_reducible rfl)); simp only [Act.put, List.setIfInBounds_toArray, List.set_cons_zero, List.set_cons_succ])
    obtain ⟨k0, k1, k2, k3, k4, k5⟩ := res_facts HX4.out
    refine wpOrd_exec (o := ⟨_, _, _, _, _, _⟩) rfl rfl (fun K hK => ?_)
    go_simp
    refine hK _ _ (grown4 _ _ _ _ _ _) ?_
    clear hK K
    iterate 1 (refine wpOrd_take (o := ⟨_, _, _, _, _, _⟩) (v := ?_) rfl rfl ?_ ?_; rotate_left; (focus (intro W hW; go_simp; first | done | with_reducible rfl)); simp only [Act.put, List.setIfInBounds_toArray, List.set_cons_zero, List.set_cons_succ])
    refine wpOrd_nil ?_
    have y := set4 HX4.out (.int .i64 10) (.int .i64 0) (.string ⟨#[]⟩) (.slice none 0 0)
    have y0 := y.cell 0
    have y1 := y.cell 1
    have y2 := y.cell 2
    have y3 := y.cell 3
    simp at y0 y1 y2 y3
    go_wp2_with fail
    try simp only [Exit.inBlock, Exit.then]
    exact bodyPost_ret (v := .tuple #[.agg #[.int .i64 10, .int .i64 0, .string ⟨#[]⟩, .slice none 0 0], .bool false]) (by simp [results, Tryz.results86, go_sem, y0, y1, y2, y3]) rfl (retTm_of _ HBB.out HTM.out HQL.out (bel4 BQ4.out (Nat.le_refl _) _ _ _ _))
set_option maxHeartbeats 2000000 in
theorem term26_word (s : List UInt8) (hc : Lib.cut s [58] = (s, [], false)) (w : World) (hs : s.length ≤ 512) (hW : QpW w) (d0 : (s == [97, 108, 108]) = false) (d1 : (s == [110, 111, 110, 101]) = false) (d2 : (s == [117, 110, 114, 101, 97, 100]) = false) (d3 : (s == [115, 116, 97, 114, 114, 101, 100]) = false) : Calls Tryz.prog 86 #[.string ⟨(s : List UInt8).toArray⟩] w (RetTm (tmC s) w) := by
  have ho : i64P 11 := i64P_lit (z := 11) (by omega)
  have hn : i64P 0 := i64P_lit (z := 0) (by omega)
  obtain ⟨t, htt⟩ : ∃ t, t = foldT s := ⟨_, rfl⟩
  have ht : t.length ≤ 2048 := by have := foldT_len26 s; rw [htt]; omega
  have HTM : Hid (tmC s = chkQ ⟨11, 0, t, []⟩) := Lib.hid (by unfold tmC; rw [hc, if_neg (by simp), if_neg (by simpa [tAll] using d0), if_neg (by simpa [tNon] using d1), if_neg (by simpa [tUnr] using d2), if_neg (by simpa [tSta] using d3), htt])
  have hz : (ByteArray.mk s.toArray).size = s.length := size_of s
  have HF := Lib.hid (fun W => fold_any5 ⟨s.toArray⟩ W (by omega))
  rw [bl_of, ← htt] at HF
  have B0 := bel_alloc (Below.refl w.heap.size w) (.cells #[.int .i64 0, .int .i64 0, .string ⟨#[]⟩, .slice none 0 0] 25)
  have B1 := Lib.hid (bel_alloc B0 (.cells #[.int .i64 0, .int .i64 0, .string ⟨#[]⟩, .slice none 0 0] 25))
  have X0 := Lib.hid ((Blk.new w 25 #[.int .i64 0, .int .i64 0, .string ⟨#[]⟩, .slice none 0 0]).alloc (.cells #[.int .i64 0, .int .i64 0, .string ⟨#[]⟩, .slice none 0 0] 25))
  have X1 : Hid (Blk ((w.alloc (.cells #[.int .i64 0, .int .i64 0, .string ⟨#[]⟩, .slice none 0 0] 25)).alloc (.cells #[.int .i64 0, .int .i64 0, .string ⟨#[]⟩, .slice none 0 0] 25)) (w.heap.size + 1) 25 #[.int .i64 0, .int .i64 0, .string ⟨#[]⟩, .slice none 0 0]) := Lib.hid (by
    have h := Blk.new (w.alloc (.cells #[.int .i64 0, .int .i64 0, .string ⟨#[]⟩, .slice none 0 0] 25)) 25 #[.int .i64 0, .int .i64 0, .string ⟨#[]⟩, .slice none 0 0]
    rwa [show (w.alloc (.cells #[.int .i64 0, .int .i64 0, .string ⟨#[]⟩, .slice none 0 0] 25)).heap.size = w.heap.size + 1 by simp] at h)
  have HW1 := Lib.hid (hW.keep B1.out)
  have HCUT := Lib.hid (cut26_any s s [] false hc _ hs HW1.out)
  have HCK := Lib.hid (fun W => check_leaf 11 0 t ho hn ht W)
  have HQL : Hid (∀ {W : World}, QAt W (fun b => w.heap.size ≤ b) #[.int .i64 11, .int .i64 0, .string ⟨(t : List UInt8).toArray⟩, .slice none 0 0] ⟨11, 0, t, []⟩) := Lib.hid (QAt.leaf ho hn (by omega))
  generalize hbb : okQ ⟨11, 0, t, []⟩ = b at HCK
  have HBB := Lib.hid hbb
  clear hbb
  generalize tmC s = tm at *
  clear hW hc B0 htt
  go_enter Tryz.func86, Tryz.ntmps86
  go_wp2_with fail
  (with_reducible refine (HCUT.out).mono ?_)
  rintro _ w1 ⟨rfl, hw1⟩
  have HB1 := Lib.hid hw1
  have hz1 := HB1.out.size
  simp at hz1
  clear hw1
  go_wp2_with fail
  (with_reducible refine (HF.out w1).mono ?_)
  rintro _ w2 ⟨rfl, hb2⟩
  have HX0 := Lib.hid ((X0.out.below HB1.out X0.out.lt).below hb2 (by omega))
  have HX1 := Lib.hid ((X1.out.below HB1.out X1.out.lt).below hb2 (by omega))
  obtain ⟨k0, k1, k2, k3, k4, k5⟩ := res_facts HX0.out
  obtain ⟨m0, m1, m2, m3, m4, m5⟩ := res_facts HX1.out
  have HBW := Lib.hid (bel4 (bel_step B1.out (bel_step HB1.out hb2)) (show w.heap.size ≤ w.heap.size + 1 by omega) (.int .i64 11) (.int .i64 0) (.string ⟨t.toArray⟩) (.slice none 0 0))
  have HY1 := Lib.hid (set4 HX1.out (.int .i64 11) (.int .i64 0) (.string ⟨t.toArray⟩) (.slice none 0 0))
  have HY0 := Lib.hid (HX0.out.grown (grown4 w2 (w.heap.size + 1) (.int .i64 11) (.int .i64 0) (.string ⟨t.toArray⟩) (.slice none 0 0)) (by simp))
  clear hb2
  go_wp2_with fail
  obtain ⟨wy, hwy⟩ : ∃ wy, wy = ((((w2.setCell ⟨w.heap.size + 1, 0, none⟩ (.int .i64 11)).setCell ⟨w.heap.size + 1, 1, none⟩ (.int .i64 0)).setCell ⟨w.heap.size + 1, 2, none⟩ (.string ⟨t.toArray⟩)).setCell ⟨w.heap.size + 1, 3, none⟩ (.slice none 0 0)) := ⟨_, rfl⟩
  rw [← hwy] at HY1 HY0 HBW ⊢
  clear hwy k0 k1 k2 k3 k4 k5 m0 m1 m2 m3 m4 m5
  refine wp_region_ordR (fun u v => u.grownBy v (some w.heap.size)) (fun _ => World.grownBy.refl _ _) (fun _ _ _ => grown_trans) (by kernel_rfl) (.take 0 (.take 1 (.take 2 (.take 3 (.exec 4 (.take 5 (.take 6 (.exec 7 (.take 8 (.nil)))))))))) (by kernel_rfl) (by kernel_rfl) (by kernel_rfl) ?_
  obtain ⟨w0, hw0⟩ : ∃ w0, w0 = wy.drew := ⟨_, rfl⟩
  have BQ : Below w.heap.size w w0 := by rw [hw0]; exact HBW.out.drew
  have HX : Blk w0 w.heap.size 25 #[.int .i64 0, .int .i64 0, .string ⟨#[]⟩, .slice none 0 0] := by rw [hw0]; exact HY0.out.drew
  have HY : Blk w0 (w.heap.size + 1) 25 #[.int .i64 11, .int .i64 0, .string ⟨t.toArray⟩, .slice none 0 0] := by rw [hw0]; exact HY1.out.drew
  rw [← hw0]
  clear hw0
  have y0 := fun W (hW : w0.grownBy W (some w.heap.size)) => (show W.cell? ⟨w.heap.size + 1, 0, none⟩ = some (.int .i64 11) from ((HY.grown hW (by simp)).cell 0).trans rfl)
  have y1 := fun W (hW : w0.grownBy W (some w.heap.size)) => (show W.cell? ⟨w.heap.size + 1, 1, none⟩ = some (.int .i64 0) from ((HY.grown hW (by simp)).cell 1).trans rfl)
  have y2 := fun W (hW : w0.grownBy W (some w.heap.size)) => (show W.cell? ⟨w.heap.size + 1, 2, none⟩ = some (.string ⟨t.toArray⟩) from ((HY.grown hW (by simp)).cell 2).trans rfl)
  have y3 := fun W (hW : w0.grownBy W (some w.heap.size)) => (show W.cell? ⟨w.heap.size + 1, 3, none⟩ = some (.slice none 0 0) from ((HY.grown hW (by simp)).cell 3).trans rfl)
  have HXH := Lib.hid HX
  have BQH := Lib.hid BQ
  clear HX HY BQ
  iterate 4 (refine wpOrd_take (o := ⟨_, _, _, _, _, _⟩) (v := ?_) rfl rfl ?_ ?_; rotate_left; (focus (intro W hW; go_simp; first | done | with_reducible rfl)); simp only [Act.put, List.setIfInBounds_toArray, List.set_cons_zero, List.set_cons_succ])
  clear y0 y1 y2 y3
  have CN := Lib.hid (HCK.out w0)
  cases b with
  | true => 
    have CN : Hid (Calls Tryz.prog 19 #[.agg #[.int .i64 11, .int .i64 0, .string ⟨t.toArray⟩, .slice none 0 0]] w0 fun e w' => e = .returned (.int .i64 0) ∧ Below w0.heap.size w0 w') := CN
    refine wpOrd_exec (o := ⟨_, _, _, _, _, _⟩) rfl rfl (fun K hK => ?_)
    go_simp
    (with_reducible refine (CN.out).mono ?_)
    rintro _ w4 ⟨rfl, hb4⟩
    go_wp2_with fail
    refine hK _ _ (grown_of hb4) ?_
    clear hK K
    have HX4 := Lib.hid (HXH.out.below hb4 HXH.out.lt)
    have BQ4 := Lib.hid (bel_step BQH.out hb4)
    clear hb4
    iterate 2 (refine wpOrd_take (o := ⟨_, _, _, _, _, _⟩) (v := ?_) rfl rfl ?_ ?_; rotate_left; (focus (intro W hW; go_simp; first | done | with_reducible rfl)); simp only [Act.put, List.setIfInBounds_toArray, List.set_cons_zero, List.set_cons_succ])
    obtain ⟨k0, k1, k2, k3, k4, k5⟩ := res_facts HX4.out
    refine wpOrd_exec (o := ⟨_, _, _, _, _, _⟩) rfl rfl (fun K hK => ?_)
    go_simp
    refine hK _ _ (grown4 _ _ _ _ _ _) ?_
    clear hK K
    iterate 1 (refine wpOrd_take (o := ⟨_, _, _, _, _, _⟩) (v := ?_) rfl rfl ?_ ?_; rotate_left; (focus (intro W hW; go_simp; first | done | with_reducible rfl)); simp only [Act.put, List.setIfInBounds_toArray, List.set_cons_zero, List.set_cons_succ])
    refine wpOrd_nil ?_
    have y := set4 HX4.out (.int .i64 11) (.int .i64 0) (.string ⟨t.toArray⟩) (.slice none 0 0)
    have y0 := y.cell 0
    have y1 := y.cell 1
    have y2 := y.cell 2
    have y3 := y.cell 3
    simp at y0 y1 y2 y3
    go_wp2_with fail
    try simp only [Exit.inBlock, Exit.then]
    exact bodyPost_ret (v := .tuple #[.agg #[.int .i64 11, .int .i64 0, .string ⟨t.toArray⟩, .slice none 0 0], .bool true]) (by simp [results, Tryz.results86, go_sem, y0, y1, y2, y3]) rfl (retTm_of _ HBB.out HTM.out HQL.out (bel4 BQ4.out (Nat.le_refl _) _ _ _ _))
  | false => 
    have CN : Hid (Calls Tryz.prog 19 #[.agg #[.int .i64 11, .int .i64 0, .string ⟨t.toArray⟩, .slice none 0 0]] w0 fun e w' => e = .returned (.int .i64 250) ∧ Below w0.heap.size w0 w') := CN
    refine wpOrd_exec (o := ⟨_, _, _, _, _, _⟩) rfl rfl (fun K hK => ?_)
    go_simp
    (with_reducible refine (CN.out).mono ?_)
    rintro _ w4 ⟨rfl, hb4⟩
    go_wp2_with fail
    refine hK _ _ (grown_of hb4) ?_
    clear hK K
    have HX4 := Lib.hid (HXH.out.below hb4 HXH.out.lt)
    have BQ4 := Lib.hid (bel_step BQH.out hb4)
    clear hb4
    iterate 2 (refine wpOrd_take (o := ⟨_, _, _, _, _, _⟩) (v := ?_) rfl rfl ?_ ?_; rotate_left; (focus (intro W hW; go_simp; first | done | with_reducible rfl)); simp only [Act.put, List.setIfInBounds_toArray, List.set_cons_zero, List.set_cons_succ])
    obtain ⟨k0, k1, k2, k3, k4, k5⟩ := res_facts HX4.out
    refine wpOrd_exec (o := ⟨_, _, _, _, _, _⟩) rfl rfl (fun K hK => ?_)
    go_simp
    refine hK _ _ (grown4 _ _ _ _ _ _) ?_
    clear hK K
    iterate 1 (refine wpOrd_take (o := ⟨_, _, _, _, _, _⟩) (v := ?_) rfl rfl ?_ ?_; rotate_left; (focus (intro W hW; go_simp; first | done | with_reducible rfl)); simp only [Act.put, List.setIfInBounds_toArray, List.set_cons_zero, List.set_cons_succ])
    refine wpOrd_nil ?_
    have y := set4 HX4.out (.int .i64 11) (.int .i64 0) (.string ⟨t.toArray⟩) (.slice none 0 0)
    have y0 := y.cell 0
    have y1 := y.cell 1
    have y2 := y.cell 2
    have y3 := y.cell 3
    simp at y0 y1 y2 y3
    go_wp2_with fail
    try simp only [Exit.inBlock, Exit.then]
    exact bodyPost_ret (v := .tuple #[.agg #[.int .i64 11, .int .i64 0, .string ⟨t.toArray⟩, .slice none 0 0], .bool false]) (by simp [results, Tryz.results86, go_sem, y0, y1, y2, y3]) rfl (retTm_of _ HBB.out HTM.out HQL.out (bel4 BQ4.out (Nat.le_refl _) _ _ _ _))
theorem term26_any : TermP termD := by
  intro s w hs hW
  rw [← tm_same]
  rcases cut26 s with ⟨a, r, e, ha, hc⟩ | ⟨hn, hc⟩
  · have hl : a.length + r.length ≤ 512 := by rw [e] at hs; simp at hs; omega
    cases hok : (nmC a r).2 with
    | true => exact term26_yes s a r hc w hs hl hW hok
    | false => exact term26_no s a r hc w hs hl hW hok
  · by_cases h0 : s = [97, 108, 108]
    · subst h0; exact term26_all w hW
    by_cases h1 : s = [110, 111, 110, 101]
    · subst h1; exact term26_none w hW
    by_cases h2 : s = [117, 110, 114, 101, 97, 100]
    · subst h2; exact term26_unread w hW
    by_cases h3 : s = [115, 116, 97, 114, 114, 101, 100]
    · subst h3; exact term26_starred w hW
    exact term26_word s hc w hs hW (by simpa using h0) (by simpa using h1) (by simpa using h2) (by simpa using h3)
end Go.Proofs.YtjjlmkleidbmhaaGreatDoor
end
