/-
  What a query may have, by the document (printed by gen_qtf.py).
-/
import Derived.Test.YtjnhhdkphcbflaaQtF2
import Derived.Test.YtjnhhdkphcbflaaQtF3
namespace Go.Proofs.Ytjnhhdkphcbflaa
open Go.RowKit Go.Nst
set_option maxRecDepth 100000
set_option linter.unusedVariables false
set_option linter.unusedSimpArgs false

set_option maxHeartbeats 2000000 in
theorem plain25_no (o : Int) (n : Int) (s : List UInt8) (A : Option Addr) (k c : Nat) (w : World) (hs : s.length ≤ 20000) (h : ¬ (1 ≤ o ∧ o ≤ 15)) : Calls Try.prog 38 #[.agg (qV o n s A k c)] w fun e w' => e = .returned (.bool (oneQ o n s k)) ∧ Below w.heap.size w w' := by
  have B0 := bel_alloc (Below.refl w.heap.size w) (.cells (qV o n s A k c) 24)
  unfold qV at *
  have b1 : (o == 1) = false := by simp; omega
  have b2 : (o == 2) = false := by simp; omega
  have b3 : (o == 3) = false := by simp; omega
  have b4 : (o == 4) = false := by simp; omega
  have b5 : (o == 5) = false := by simp; omega
  have b6 : (o == 6) = false := by simp; omega
  have b7 : (o == 7) = false := by simp; omega
  have b8 : (o == 8) = false := by simp; omega
  have b9 : (o == 9) = false := by simp; omega
  have b10 : (o == 10) = false := by simp; omega
  have b11 : (o == 11) = false := by simp; omega
  have b12 : (o == 12) = false := by simp; omega
  have b13 : (o == 13) = false := by simp; omega
  have b14 : (o == 14) = false := by simp; omega
  have b15 : (o == 15) = false := by simp; omega
  have hq : oneQ o n s k = false := by simp only [oneQ, decide_eq_false h, Bool.false_and]
  have HQ := Lib.hid hq
  clear hq h
  by_cases h0 : s = []
  · subst h0
    by_cases h1 : 1 ≤ n
    all_goals by_cases h2 : n ≤ 1048576
    all_goals try (exfalso; omega)
    all_goals
      go_enter Try.func38, Try.ntmps38
      go_wp2_with fail
      go_ret
      exact ⟨by rw [HQ.out]; rfl, bel_alloc (Below.refl _ _) _⟩
  · have hs2 : s.isEmpty = false := by simpa using h0
    by_cases h1 : 1 ≤ n
    all_goals by_cases h2 : n ≤ 1048576
    all_goals try (exfalso; omega)
    all_goals
      go_enter Try.func38, Try.ntmps38
      go_wp2_with fail
      go_ret
      exact ⟨by rw [HQ.out]; rfl, bel_alloc (Below.refl _ _) _⟩
theorem refPlain25_any (o : Int) (n : Int) (s : List UInt8) (A : Option Addr) (k c : Nat) (w : World) (hs : s.length ≤ 20000) : Calls Try.prog 38 #[.agg (qV o n s A k c)] w fun e w' => e = .returned (.bool (oneQ o n s k)) ∧ Below w.heap.size w w' := by
  by_cases h : 1 ≤ o ∧ o ≤ 15
  · obtain ⟨h1, h2⟩ := h
    obtain rfl | rfl | rfl | rfl | rfl | rfl | rfl | rfl | rfl | rfl | rfl | rfl | rfl | rfl | rfl : o = 1 ∨ o = 2 ∨ o = 3 ∨ o = 4 ∨ o = 5 ∨ o = 6 ∨ o = 7 ∨ o = 8 ∨ o = 9 ∨ o = 10 ∨ o = 11 ∨ o = 12 ∨ o = 13 ∨ o = 14 ∨ o = 15 := by omega
    · exact plain25_1 n s A k c w hs
    · exact plain25_2 n s A k c w hs
    · exact plain25_3 n s A k c w hs
    · exact plain25_4 n s A k c w hs
    · exact plain25_5 n s A k c w hs
    · exact plain25_6 n s A k c w hs
    · exact plain25_7 n s A k c w hs
    · exact plain25_8 n s A k c w hs
    · exact plain25_9 n s A k c w hs
    · exact plain25_10 n s A k c w hs
    · exact plain25_11 n s A k c w hs
    · exact plain25_12 n s A k c w hs
    · exact plain25_13 n s A k c w hs
    · exact plain25_14 n s A k c w hs
    · exact plain25_15 n s A k c w hs
  · exact plain25_no o n s A k c w hs h
end Go.Proofs.Ytjnhhdkphcbflaa
