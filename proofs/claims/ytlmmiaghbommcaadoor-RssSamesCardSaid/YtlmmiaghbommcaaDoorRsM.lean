/-
  RssSames: the walk.
-/
import Derived.Test.YtlmmiaghbommcaaDoorRsK
namespace Go.Proofs.YtlmmiaghbommcaaDoor
open Go.ChangeShapes Go.WideShapes Go.ChangeAt Go.Deep
open Go.RowKit Go.Nst
set_option maxRecDepth 100000
set_option linter.unusedVariables false
set_option linter.unusedSimpArgs false

set_option maxHeartbeats 4000000 in
theorem rssSames_walk (D D2 : Docs) (A A2 : Option Addr) (n n2 c c2 : Nat) (m : Int) (w : World) (S S2 : Nat → Prop) (hk : EnA w S A n D.en) (hn : n ≤ c) (hc : c ≤ 9223372036854775807) (hk2 : EnA w S2 A2 n2 D2.en) (hn2 : n2 ≤ c2) (hc2 : c2 ≤ 9223372036854775807) (hM : MM m w) :
    Calls Tryd.prog 3 #[.agg #[.string ⟨D.ti.toArray⟩, .string ⟨D.li.toArray⟩, .slice A n c], .agg #[.string ⟨D2.ti.toArray⟩, .string ⟨D2.li.toArray⟩, .slice A2 n2 c2]] w (RetTrue w) := by
  have b1 := bel_alloc (Below.refl w.heap.size w) (.cells #[.string ⟨D.ti.toArray⟩, .string ⟨D.li.toArray⟩, .slice A n c] 24)
  have b2 := bel_alloc b1 (.cells #[.string ⟨D2.ti.toArray⟩, .string ⟨D2.li.toArray⟩, .slice A2 n2 c2] 24)
  have x1 := (Blk.new w 24 #[.string ⟨D.ti.toArray⟩, .string ⟨D.li.toArray⟩, .slice A n c]).alloc (.cells #[.string ⟨D2.ti.toArray⟩, .string ⟨D2.li.toArray⟩, .slice A2 n2 c2] 24)
  have x2 := Blk.new (w.alloc (.cells #[.string ⟨D.ti.toArray⟩, .string ⟨D.li.toArray⟩, .slice A n c] 24)) 24 #[.string ⟨D2.ti.toArray⟩, .string ⟨D2.li.toArray⟩, .slice A2 n2 c2]
  rw [show (w.alloc (.cells #[.string ⟨D.ti.toArray⟩, .string ⟨D.li.toArray⟩, .slice A n c] 24)).heap.size = w.heap.size + 1 by simp] at x2
  have HB := Lib.hid b2
  have HM := Lib.hid (hM.keep b2)
  have HX1 := Lib.hid x1
  have HX2 := Lib.hid x2
  have HE1 := Lib.hid (hk.bel enP b2)
  have HE2 := Lib.hid (hk2.bel enP b2)
  clear b1 b2 x1 x2 hM hk hk2
  by_cases h1 : 300 < n
  · have d1 : decide (300 < (n : Int)) = true := by simp; omega
    go_enter Tryd.func3, Tryd.ntmps3
    go_wp2_with fail
    (with_reducible refine (lives10_any m _ HM.out).mono ?_)
    rintro _ w1 ⟨rfl, hb⟩
    go_wp2_with fail
    go_ret
    exact ⟨rfl, bel_step HB.out hb⟩
  have d1 : decide (300 < (n : Int)) = false := by simp; omega
  by_cases h2 : 300 < n2
  · have d2 : decide (300 < (n2 : Int)) = true := by simp; omega
    go_enter Tryd.func3, Tryd.ntmps3
    go_wp2_with fail
    (with_reducible refine (lives10_any m _ HM.out).mono ?_)
    rintro _ w1 ⟨rfl, hb⟩
    go_wp2_with fail
    go_ret
    exact ⟨rfl, bel_step HB.out hb⟩
  have d2 : decide (300 < (n2 : Int)) = false := by simp; omega
  go_enter Tryd.func3, Tryd.ntmps3
  go_wp2_with fail
  (with_reducible refine (lives10_any m _ HM.out).mono ?_)
  rintro _ w1 ⟨rfl, hb⟩
  have HB1 := Lib.hid (bel_step HB.out hb)
  have X1 := Lib.hid (HX1.out.below hb HX1.out.lt)
  have X2 := Lib.hid (HX2.out.below hb HX2.out.lt)
  have E1 := Lib.hid (HE1.out.bel enP hb)
  have E2 := Lib.hid (HE2.out.bel enP hb)
  clear hb HB HX1 HX2 HE1 HE2 HM
  have t0 := X1.out.cell 0
  have t1 := X1.out.cell 1
  have t2 := X1.out.cell 2
  have u0 := X2.out.cell 0
  have u1 := X2.out.cell 1
  have u2 := X2.out.cell 2
  simp at t0 t1 t2 u0 u1 u2
  have HC := Lib.hid (Same10_any D D2 A A2 n n2 c c2 _ _ _ E1.out E2.out ⟨hn, hc⟩ ⟨hn2, hc2⟩)
  obtain ⟨bb, hbb⟩ : ∃ bb, bb = decide (D = D2) := ⟨_, rfl⟩
  have HBB := Lib.hid hbb
  rw [← hbb] at HC
  clear hbb
  go_wp2_with fail
  (with_reducible refine (HC.out).mono ?_)
  rintro _ w2 ⟨rfl, hb⟩
  have HB2 := Lib.hid (bel_step HB1.out hb)
  have Y1 := Lib.hid (X1.out.below hb X1.out.lt)
  have Y2 := Lib.hid (X2.out.below hb X2.out.lt)
  have F1 := Lib.hid (E1.out.bel enP hb)
  have F2 := Lib.hid (E2.out.bel enP hb)
  clear hb HB1 X1 X2 E1 E2 t0 t1 t2 u0 u1 u2 HC
  have t0 := Y1.out.cell 0
  have t1 := Y1.out.cell 1
  have t2 := Y1.out.cell 2
  have u0 := Y2.out.cell 0
  have u1 := Y2.out.cell 1
  have u2 := Y2.out.cell 2
  simp at t0 t1 t2 u0 u1 u2
  have HC := Lib.hid (refSame10_any D D2 A A2 n n2 c c2 _ _ _ F1.out F2.out ⟨hn, hc⟩ ⟨hn2, hc2⟩)
  rw [← HBB.out] at HC
  go_wp2_with fail
  (with_reducible refine (HC.out).mono ?_)
  rintro _ w3 ⟨rfl, hb⟩
  go_wp2_with fail
  go_ret
  exact ⟨by first | rfl | simp, bel_step HB2.out hb⟩
end Go.Proofs.YtlmmiaghbommcaaDoor
