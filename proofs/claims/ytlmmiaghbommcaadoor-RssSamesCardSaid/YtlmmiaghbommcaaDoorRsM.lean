/-
  RssSames: the walk.
-/
import Derived.Test.YtlmmiaghbommcaaDoorRsK
namespace Go.Proofs.YtlmmiaghbommcaaDoor
open Go.ChangeShapes Go.WideShapes Go.ChangeAt Go.Deep
open Go.RowKit Go.Nst
set_option maxRecDepth 100000
set_option linter.unusedVariables false
set_option linter.unusedSimpArgs false

set_option maxHeartbeats 4000000 in
theorem rssSames_walk (D D2 : Docs) (A A2 : Option Addr) (n n2 c c2 : Nat) (m : Int) (w : World) (S S2 : Nat → Prop) (hk : EnA w S A n D.en) (hn : n ≤ c) (hc : c ≤ 9223372036854775807) (hk2 : EnA w S2 A2 n2 D2.en) (hn2 : n2 ≤ c2) (hc2 : c2 ≤ 9223372036854775807) (hM : MM m w) :
    Calls Tryd.prog 3 #[.agg #[.string ⟨D.ti.toArray⟩, .string ⟨D.li.toArray⟩, .slice A n c], .agg #[.string ⟨D2.ti.toArray⟩, .string ⟨D2.li.toArray⟩, .slice A2 n2 c2]] w (RetTrue w) := by
  have b1 := bel_alloc (Below.refl w.heap.size w) (.cells #[.string ⟨D.ti.toArray⟩, .string ⟨D.li.toArray⟩, .slice A n c] 24)
  have b2 := bel_alloc b1 (.cells #[.string ⟨D2.ti.toArray⟩, .string ⟨D2.li.toArray⟩, .slice A2 n2 c2] 24)
  have x1 := (Blk.new w 24 #[.string ⟨D.ti.toArray⟩, .string ⟨D.li.toArray⟩, .slice A n c]).alloc (.cells #[.string ⟨D2.ti.toArray⟩, .string ⟨D2.li.toArray⟩, .slice A2 n2 c2] 24)
  have x2 := Blk.new (w.alloc (.cells #[.string ⟨D.ti.toArray⟩, .string ⟨D.li.toArray⟩, .slice A n c] 24)) 24 #[.string ⟨D2.ti.toArray⟩, .string ⟨D2.li.toArray⟩, .slice A2 n2 c2]
  rw [show (w.alloc (.cells #[.string ⟨D.ti.toArray⟩, .string ⟨D.li.toArray⟩, .slice A n c] 24)).heap.size = w.heap.size + 1 by simp] at x2
  have HB := Lib.hid b2
  have HM := Lib.hid (hM.keep b2)
  have HX1 := Lib.hid x1
  have HX2 := Lib.hid x2
  have HE1 := Lib.hid (hk.bel enP b2)
  have HE2 := Lib.hid (hk2.bel enP b2)
  clear b1 b2 x1 x2 hM hk hk2
  by_cases h1 : 300 < n
  · have d1 : decide (300 < (n : Int)) = true := by simp; omega
    go_enter Tryd.func3, Tryd.ntmps3
    go_wp2_with fail
    (with_reducible refine (lives10_any m _ HM.out).mono ?_)
    rintro _ w1 ⟨rfl, hb⟩
    go_wp2_with fail
    go_ret
    exact ⟨rfl, bel_step HB.out hb⟩
  have d1 : decide (300 < (n : Int)) = false := by simp; omega
  by_cases h2 : 300 < n2
  · have d2 : decide (300 < (n2 : Int)) = true := by simp; omega
    go_enter Tryd.func3, Tryd.ntmps3
    go_wp2_with fail
    (with_reducible refine (lives10_any m _ HM.out).mono ?_)
    rintro _ w1 ⟨rfl, hb⟩
    go_wp2_with fail
    go_ret
    exact ⟨rfl, bel_step HB.out hb⟩
  have d2 : decide (300 < (n2 : Int)) = false := by simp; omega
  go_enter Tryd.func3, Tryd.ntmps3
  go_upto_region 3 with fail
  obtain ⟨wr, hwr⟩ : ∃ wr, wr = (w.alloc (.cells #[.string ⟨D.ti.toArray⟩, .string ⟨D.li.toArray⟩, .slice A n c] 24)).alloc (.cells #[.string ⟨D2.ti.toArray⟩, .string ⟨D2.li.toArray⟩, .slice A2 n2 c2] 24) := ⟨_, rfl⟩
  rw [← hwr] at HB HM HX1 HX2 HE1 HE2
  try simp only [← hwr]
  clear hwr
  refine wp_region_ord wr.heap.size (by kernel_rfl) (.exec 0 (.take 1 (.take 2 (.take 3 (.take 5 (.take 6 (.exec 4 (.exec 7 (.take 8 (.take 9 (.take 10 (.nil)))))))))))) (by kernel_rfl) (by kernel_rfl) (by kernel_rfl) ?_
  intro w0 hb0 hz0
  have BQ0 := Lib.hid hb0
  refine wpOrd_exec (o := ⟨_, _, _, _, _, _⟩) rfl rfl (fun K hK => ?_)
  go_simp
  (with_reducible refine (lives10_any m _ (HM.out.keep hb0)).mono ?_)
  rintro _ wa ⟨rfl, hba⟩
  go_wp2_with fail
  refine hK _ _ (hba.mono (Nat.le_of_eq hz0.symm)) ?_
  clear hK K
  have BQ1 := Lib.hid (BQ0.out.trans (hba.mono (Nat.le_of_eq hz0.symm)))
  clear hb0 hz0 hba BQ0
  have y0 := fun W (hW : Below wr.heap.size wa W) => (show W.cell? ⟨w.heap.size, 0, none⟩ = some (.string ⟨D.ti.toArray⟩) from ((HX1.out.below (BQ1.out.trans hW) HX1.out.lt).cell 0).trans rfl)
  have y1 := fun W (hW : Below wr.heap.size wa W) => (show W.cell? ⟨w.heap.size, 1, none⟩ = some (.string ⟨D.li.toArray⟩) from ((HX1.out.below (BQ1.out.trans hW) HX1.out.lt).cell 1).trans rfl)
  have y2 := fun W (hW : Below wr.heap.size wa W) => (show W.cell? ⟨w.heap.size, 2, none⟩ = some (.slice A n c) from ((HX1.out.below (BQ1.out.trans hW) HX1.out.lt).cell 2).trans rfl)
  have z0 := fun W (hW : Below wr.heap.size wa W) => (show W.cell? ⟨w.heap.size + 1, 0, none⟩ = some (.string ⟨D2.ti.toArray⟩) from ((HX2.out.below (BQ1.out.trans hW) HX2.out.lt).cell 0).trans rfl)
  have z1 := fun W (hW : Below wr.heap.size wa W) => (show W.cell? ⟨w.heap.size + 1, 1, none⟩ = some (.string ⟨D2.li.toArray⟩) from ((HX2.out.below (BQ1.out.trans hW) HX2.out.lt).cell 1).trans rfl)
  have z2 := fun W (hW : Below wr.heap.size wa W) => (show W.cell? ⟨w.heap.size + 1, 2, none⟩ = some (.slice A2 n2 c2) from ((HX2.out.below (BQ1.out.trans hW) HX2.out.lt).cell 2).trans rfl)
  iterate 5 (refine wpOrd_take (o := ⟨_, _, _, _, _, _⟩) (v := ?_) rfl rfl ?_ ?_; rotate_left; (focus (intro W hW; go_simp; first | done | with_reducible rfl)); simp only [Act.put, List.setIfInBounds_toArray, List.set_cons_zero, List.set_cons_succ])
  clear y0 y1 y2 z0 z1 z2
  obtain ⟨bb, hbb⟩ : ∃ bb, bb = decide (D = D2) := ⟨_, rfl⟩
  have HBB := Lib.hid hbb
  clear hbb
  have CN := Lib.hid (Same10_any D D2 A A2 n n2 c c2 wa _ _ (HE1.out.bel enP BQ1.out) (HE2.out.bel enP BQ1.out) ⟨hn, hc⟩ ⟨hn2, hc2⟩)
  rw [← HBB.out] at CN
  refine wpOrd_exec (o := ⟨_, _, _, _, _, _⟩) rfl rfl (fun K hK => ?_)
  go_simp
  (with_reducible refine (CN.out).mono ?_)
  rintro _ wb ⟨rfl, hbb⟩
  go_wp2_with fail
  refine hK _ _ (hbb.mono BQ1.out.size) ?_
  clear hK K CN
  have BQ2 := Lib.hid (BQ1.out.trans (hbb.mono BQ1.out.size))
  clear hbb BQ1
  have CN := Lib.hid (refSame10_any D D2 A A2 n n2 c c2 wb _ _ (HE1.out.bel enP BQ2.out) (HE2.out.bel enP BQ2.out) ⟨hn, hc⟩ ⟨hn2, hc2⟩)
  rw [← HBB.out] at CN
  refine wpOrd_exec (o := ⟨_, _, _, _, _, _⟩) rfl rfl (fun K hK => ?_)
  go_simp
  (with_reducible refine (CN.out).mono ?_)
  rintro _ wd ⟨rfl, hbb⟩
  go_wp2_with fail
  refine hK _ _ (hbb.mono BQ2.out.size) ?_
  clear hK K CN
  have BQ3 := Lib.hid (BQ2.out.trans (hbb.mono BQ2.out.size))
  clear hbb BQ2
  iterate 3 (refine wpOrd_take (o := ⟨_, _, _, _, _, _⟩) (v := ?_) rfl rfl ?_ ?_; rotate_left; (focus (intro W hW; go_simp; first | done | with_reducible rfl)); simp only [Act.put, List.setIfInBounds_toArray, List.set_cons_zero, List.set_cons_succ])
  refine wpOrd_nil ?_
  go_wp2_with fail
  go_ret
  exact ⟨by first | rfl | simp, bel_step HB.out BQ3.out⟩
end Go.Proofs.YtlmmiaghbommcaaDoor
