/-
  What a query may have: its number, its text, how many within it.
-/
import Derived.Test.YtjnhhdkphcbflaaQtD
import Derived.Test.YtjnhhdkphcbflaaEvA
namespace Go.Proofs.Ytjnhhdkphcbflaa
open Go.RowKit Go.Nst
set_option maxRecDepth 100000
set_option linter.unusedVariables false
set_option linter.unusedSimpArgs false

def numQ (o n : Int) : Bool := if o = 6 then decide (1 ≤ n ∧ n ≤ 1048576) else if o = 7 then decide (0 ≤ n ∧ n ≤ 1048576) else if o = 13 ∨ o = 14 then mayM n else if o = 15 then decide (1 ≤ n ∧ n ≤ 36500) else decide (n = 0)
def txtQ (o : Int) (s : List UInt8) : Bool := if o = 8 then tagB s else if o = 11 ∨ o = 12 then wordB s else decide (s = [])
def kidQ (o : Int) (k : Nat) : Bool := if o = 3 ∨ o = 4 then decide (2 ≤ k ∧ k ≤ 16) else if o = 5 then decide (k = 1) else decide (k = 0)
def oneQ (o n : Int) (s : List UInt8) (k : Nat) : Bool := decide (1 ≤ o ∧ o ≤ 15) && numQ o n && txtQ o s && kidQ o k
theorem retb {a b : Bool} (h : a = b) : Ending.returned (.bool a) = .returned (.bool b) := by rw [h]
set_option maxHeartbeats 2000000 in
theorem number25_any (o n : Int) (s : List UInt8) (A : Option Addr) (k c : Nat) (w : World) : Calls Try.prog 33 #[.agg (qV o n s A k c)] w fun e w' => e = .returned (.bool (numQ o n)) ∧ Below w.heap.size w w' := by
  have B0 := bel_alloc (Below.refl w.heap.size w) (.cells (qV o n s A k c) 24)
  have HN := Lib.hid (of_no n)
  have HY := Lib.hid (of_yes n)
  unfold qV at *
  by_cases h6 : o = 6
  · subst h6
    go_enter Try.func33, Try.ntmps33
    go_wp2_with fail
    all_goals
      go_ret
      exact ⟨retb (by rw [Bool.eq_iff_iff]; simp [numQ]; omega), B0⟩
  have b6 : (o == 6) = false := by simpa using h6
  by_cases h7 : o = 7
  · subst h7
    go_enter Try.func33, Try.ntmps33
    go_wp2_with fail
    all_goals
      go_ret
      exact ⟨retb (by rw [Bool.eq_iff_iff]; simp [numQ]; omega), B0⟩
  have b7 : (o == 7) = false := by simpa using h7
  by_cases h13 : o = 13 ∨ o = 14
  · have hq : numQ o n = mayM n := by unfold numQ; rw [if_neg h6, if_neg h7, if_pos h13]
    rw [hq]
    have HQ := Lib.hid hq
    clear hq
    cases hm : mayM n with
    | false =>
      have HC := fun w => HN.out w hm
      simp only [Dt.val, Dt.cells, Dt.zero] at HC
      have H := Lib.hid HC
      clear HC hm
      rcases h13 with rfl | rfl
      all_goals
        go_enter Try.func33, Try.ntmps33
        go_wp2_with fail
        (with_reducible refine (H.out _).mono ?_)
        rintro e w1 ⟨rfl, hb1⟩
        go_wp2_with fail
        go_ret
        exact ⟨rfl, bel_alloc (bel_step B0 hb1) _⟩
    | true =>
      have HC := fun w => HY.out w hm
      generalize ofD n = dd at *
      obtain ⟨dy, dm, dk, dh, di, ds⟩ := dd
      simp only [Dt.val, Dt.cells] at HC
      have H := Lib.hid HC
      clear HC hm
      rcases h13 with rfl | rfl
      all_goals
        go_enter Try.func33, Try.ntmps33
        go_wp2_with fail
        (with_reducible refine (H.out _).mono ?_)
        rintro e w1 ⟨rfl, hb1⟩
        go_wp2_with fail
        go_ret
        exact ⟨rfl, bel_alloc (bel_step B0 hb1) _⟩
  have b13 : (o == 13) = false := by simp; omega
  have b14 : (o == 14) = false := by simp; omega
  by_cases h15 : o = 15
  · subst h15
    go_enter Try.func33, Try.ntmps33
    go_wp2_with fail
    all_goals
      go_ret
      exact ⟨retb (by rw [Bool.eq_iff_iff]; simp [numQ]; omega), B0⟩
  have b15 : (o == 15) = false := by simpa using h15
  have hq : numQ o n = decide (n = 0) := by unfold numQ; rw [if_neg h6, if_neg h7, if_neg h13, if_neg h15]
  have HQ := Lib.hid hq
  clear hq
  go_enter Try.func33, Try.ntmps33
  go_wp2_with fail
  go_ret
  exact ⟨by rw [HQ.out]; rfl, B0⟩
set_option maxHeartbeats 2000000 in
theorem text25_any (o n : Int) (s : List UInt8) (A : Option Addr) (k c : Nat) (w : World) (hs : s.length ≤ 20000) : Calls Try.prog 34 #[.agg (qV o n s A k c)] w fun e w' => e = .returned (.bool (txtQ o s)) ∧ Below w.heap.size w w' := by
  have B0 := bel_alloc (Below.refl w.heap.size w) (.cells (qV o n s A k c) 24)
  have HT := Lib.hid (fun W => tag_any s W hs)
  have HW := Lib.hid (fun W => isWord_any s W (by omega))
  unfold qV at *
  by_cases h8 : o = 8
  · subst h8
    have hq : txtQ 8 s = tagB s := rfl
    have HQ := Lib.hid hq
    clear hq
    go_enter Try.func34, Try.ntmps34
    go_wp2_with fail
    (with_reducible refine (HT.out _).mono ?_)
    rintro e w1 ⟨rfl, hb1⟩
    go_wp2_with fail
    go_ret
    exact ⟨by rw [HQ.out]; rfl, bel_step B0 hb1⟩
  have b8 : (o == 8) = false := by simpa using h8
  by_cases h11 : o = 11 ∨ o = 12
  · have hq : txtQ o s = wordB s := by unfold txtQ; rw [if_neg h8, if_pos h11]
    have HQ := Lib.hid hq
    clear hq h8 b8
    rcases h11 with rfl | rfl
    all_goals
      go_enter Try.func34, Try.ntmps34
      go_wp2_with fail
      (with_reducible refine (HW.out _).mono ?_)
      rintro e w1 ⟨rfl, hb1⟩
      go_wp2_with fail
      go_ret
      exact ⟨by rw [HQ.out]; rfl, bel_step B0 hb1⟩
  have b11 : (o == 11) = false := by simp; omega
  have b12 : (o == 12) = false := by simp; omega
  have hq : txtQ o s = decide (s = []) := by unfold txtQ; rw [if_neg h8, if_neg h11]
  have HQ := Lib.hid hq
  clear hq
  by_cases hs : s = []
  · subst hs
    go_enter Try.func34, Try.ntmps34
    go_wp2_with fail
    go_ret
    exact ⟨by rw [HQ.out]; rfl, B0⟩
  · have hs2 : s.isEmpty = false := by simpa using hs
    go_enter Try.func34, Try.ntmps34
    go_wp2_with fail
    go_ret
    exact ⟨by rw [HQ.out, decide_eq_false hs]; rfl, B0⟩
set_option maxHeartbeats 2000000 in
theorem kids25_any (o n : Int) (s : List UInt8) (A : Option Addr) (k c : Nat) (w : World) : Calls Try.prog 35 #[.agg (qV o n s A k c)] w fun e w' => e = .returned (.bool (kidQ o k)) ∧ Below w.heap.size w w' := by
  have B0 := bel_alloc (Below.refl w.heap.size w) (.cells (qV o n s A k c) 24)
  unfold qV at *
  by_cases h3 : o = 3 ∨ o = 4
  · rcases h3 with rfl | rfl
    all_goals
      go_enter Try.func35, Try.ntmps35
      go_wp2_with fail
      all_goals
        go_ret
        exact ⟨retb (by rw [Bool.eq_iff_iff]; simp [kidQ]; omega), B0⟩
  have b3 : (o == 3) = false := by simp; omega
  have b4 : (o == 4) = false := by simp; omega
  by_cases h5 : o = 5
  · subst h5
    go_enter Try.func35, Try.ntmps35
    go_wp2_with fail
    all_goals
      go_ret
      exact ⟨retb (by rw [Bool.eq_iff_iff]; simp [kidQ]; omega), B0⟩
  have b5 : (o == 5) = false := by simpa using h5
  have hq : kidQ o k = decide (k = 0) := by unfold kidQ; rw [if_neg h3, if_neg h5]
  have HQ := Lib.hid hq
  clear hq
  go_enter Try.func35, Try.ntmps35
  go_wp2_with fail
  go_ret
  exact ⟨retb (by rw [HQ.out, Bool.eq_iff_iff]; simp), B0⟩
end Go.Proofs.Ytjnhhdkphcbflaa
