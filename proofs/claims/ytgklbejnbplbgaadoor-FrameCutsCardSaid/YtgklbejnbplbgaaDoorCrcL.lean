/-
  The run with which each statement on sums begins.
-/
import Derived.Test.YtgklbejnbplbgaaDoorCrcD
import Derived.Lib.SlBytesConst
namespace Go.Proofs.YtgklbejnbplbgaaDoor
open Go.RowKit Go.Nst
set_option maxRecDepth 100000

theorem opened_ab : openL (sealL [97, 98]) = ([97, 98], true) := by decide +kernel
theorem opened_abcdef : openL [97, 98, 99, 100, 101, 102] = ([], false) := by decide +kernel
theorem sum_digits : crcSum [49, 50, 51, 52, 53, 54, 55, 56, 57] = 3421780262 := by decide +kernel
theorem more_digits : crcMore (crcSum [49, 50, 51, 52, 53]) [54, 55, 56, 57] = 3421780262 := by decide +kernel

set_option maxHeartbeats 1000000 in
theorem lives02_any (w : World) (ht : Tab w) : Calls Tryd.prog 11 #[] w (RetTrue w) := by
  have kc := fun (w : World) (C : Array Value) (n c : Nat) => Lib.run_convert_bytes_const (P := Tryd.prog) w 22 5 C n c Tryd.underlying22 Tryd.underlying5
  go_enter Tryd.func11, Tryd.ntmps11
  go_wp2_with fail
  refine (seal_any _ 2 _ [97, 98] _ (by omega) (Bs.const w _ _ _ _ _ rfl rfl) (ht.below (bel_alloc (Below.refl _ _) _))).mono ?_
  rintro e w1 ⟨A1, n1, c1, rfl, ho1, hb1⟩
  have B1 : Below w.heap.size w w1 := bel_step (bel_alloc (Below.refl _ _) _) hb1
  have hn1 : n1 = 6 := by have := ho1.len; simpa [sealL, wordL] using this.symm
  subst hn1
  clear hb1
  go_wp2_with fail
  refine (open_any _ _ _ _ _ (by omega) ho1.bs (ht.below B1) ho1.cap).mono ?_
  rw [opened_ab]
  rintro e w2 ⟨A2, n2, c2, rfl, ho2, hb2⟩
  have B2 : Below w.heap.size w w2 := bel_step B1 hb2
  clear hb2 ho1
  go_wp2_with fail
  refine (open_any _ 6 6 [97, 98, 99, 100, 101, 102] _ (by omega) (Bs.const w2 _ _ _ _ _ rfl rfl) (ht.below (bel_alloc B2 _)) (by omega)).mono ?_
  rw [opened_abcdef]
  rintro e w3 ⟨A3, n3, c3, rfl, ho3, hb3⟩
  have B3 : Below w.heap.size w w3 := bel_step (bel_alloc B2 _) hb3
  have ho2 := ho2.bs.below (bel_step (bel_alloc (Below.refl _ _) _) hb3)
  clear hb3 ho3
  go_wp2_with fail
  refine (sum_any _ 9 _ [49, 50, 51, 52, 53, 54, 55, 56, 57] _ (by omega) (Bs.const w3 _ _ _ _ _ rfl rfl) (ht.below (bel_alloc B3 _))).mono ?_
  rw [sum_digits]
  rintro e w4 ⟨rfl, hw⟩
  have B4 : Below w.heap.size w w4 := by rw [← hw]; exact bel_alloc B3 _
  have ho2 : Bs w4 A2 n2 [97, 98] := by rw [← hw]; exact ho2.alloc _
  clear hw
  have ks := ho2.str (P := Tryd.prog) 22 9 5 c2 Tryd.underlying22 Tryd.underlying5 Tryd.underlying9
  go_wp2_with fail
  refine (sum_any _ 5 _ [49, 50, 51, 52, 53] _ (by omega) (Bs.const w4 _ _ _ _ _ rfl rfl) (ht.below (bel_alloc B4 _))).mono ?_
  have hm := more_digits
  have hl := crcSum_lt [49, 50, 51, 52, 53]
  generalize crcSum [49, 50, 51, 52, 53] = s5 at *
  have HM := Lib.hid hm
  clear hm
  rintro e w5 ⟨rfl, hw⟩
  have B5 : Below w.heap.size w w5 := by rw [← hw]; exact bel_alloc B4 _
  clear hw
  go_wp2_with fail
  refine (more_any s5 hl _ 4 _ [54, 55, 56, 57] _ (by omega) (Bs.const w5 _ _ _ _ _ rfl rfl) (ht.below (bel_alloc B5 _))).mono ?_
  rw [HM.out]
  rintro e w6 ⟨rfl, hw⟩
  have B6 : Below w.heap.size w w6 := by rw [← hw]; exact bel_alloc B5 _
  clear hw
  go_wp2_with fail
  go_ret
  exact ⟨rfl, B6⟩
end Go.Proofs.YtgklbejnbplbgaaDoor
