/-
  What a query may have, by the document (printed by gen_qtf.py).
-/
import Derived.Test.YtjnhhdkphcbflaaQtF
namespace Go.Proofs.Ytjnhhdkphcbflaa
open Go.RowKit Go.Nst
set_option maxRecDepth 100000
set_option linter.unusedVariables false
set_option linter.unusedSimpArgs false

set_option maxHeartbeats 2000000 in
theorem plain25_6 (n : Int) (s : List UInt8) (A : Option Addr) (k c : Nat) (w : World) (hs : s.length ≤ 20000) : Calls Try.prog 38 #[.agg (qV 6 n s A k c)] w fun e w' => e = .returned (.bool (oneQ 6 n s k)) ∧ Below w.heap.size w w' := by
  have B0 := bel_alloc (Below.refl w.heap.size w) (.cells (qV 6 n s A k c) 24)
  unfold qV at *
  by_cases h0 : s = []
  · subst h0
    go_enter Try.func38, Try.ntmps38
    go_wp2_with fail
    all_goals
      go_ret
      exact ⟨retb (by rw [Bool.eq_iff_iff]; simp [oneQ, numQ, txtQ, kidQ]; try omega), bel_alloc (Below.refl _ _) _⟩
  · have hs2 : s.isEmpty = false := by simpa using h0
    have hq : oneQ 6 n s k = false := by simp [oneQ, txtQ, h0]
    have HQ := Lib.hid hq
    clear hq
    go_enter Try.func38, Try.ntmps38
    go_wp2_with fail
    all_goals
      go_ret
      exact ⟨by rw [HQ.out]; rfl, bel_alloc (Below.refl _ _) _⟩
set_option maxHeartbeats 2000000 in
theorem plain25_7 (n : Int) (s : List UInt8) (A : Option Addr) (k c : Nat) (w : World) (hs : s.length ≤ 20000) : Calls Try.prog 38 #[.agg (qV 7 n s A k c)] w fun e w' => e = .returned (.bool (oneQ 7 n s k)) ∧ Below w.heap.size w w' := by
  have B0 := bel_alloc (Below.refl w.heap.size w) (.cells (qV 7 n s A k c) 24)
  unfold qV at *
  by_cases hn : n = 0
  · subst hn
    by_cases h0 : s = []
    · subst h0
      go_enter Try.func38, Try.ntmps38
      go_wp2_with fail
      all_goals
        go_ret
        exact ⟨retb (by rw [Bool.eq_iff_iff]; simp [oneQ, numQ, txtQ, kidQ]; try omega), bel_alloc (Below.refl _ _) _⟩
    · have hs2 : s.isEmpty = false := by simpa using h0
      have hq : oneQ 7 0 s k = false := by simp [oneQ, txtQ, h0]
      have HQ := Lib.hid hq
      clear hq
      go_enter Try.func38, Try.ntmps38
      go_wp2_with fail
      all_goals
        go_ret
        exact ⟨by rw [HQ.out]; rfl, bel_alloc (Below.refl _ _) _⟩
  · have hn2 : (n == 0) = false := by simpa using hn
    have HNN := Lib.hid hn
    clear hn
    by_cases h0 : s = []
    · subst h0
      go_enter Try.func38, Try.ntmps38
      go_wp2_with fail
      all_goals
        go_ret
        exact ⟨retb (by rw [Bool.eq_iff_iff]; simp [oneQ, numQ, txtQ, kidQ]; have HN0 := HNN.out; try omega), bel_alloc (Below.refl _ _) _⟩
    · have hs2 : s.isEmpty = false := by simpa using h0
      have hq : oneQ 7 n s k = false := by simp [oneQ, txtQ, h0]
      have HQ := Lib.hid hq
      clear hq
      go_enter Try.func38, Try.ntmps38
      go_wp2_with fail
      all_goals
        go_ret
        exact ⟨by rw [HQ.out]; rfl, bel_alloc (Below.refl _ _) _⟩
set_option maxHeartbeats 2000000 in
theorem plain25_8 (n : Int) (s : List UInt8) (A : Option Addr) (k c : Nat) (w : World) (hs : s.length ≤ 20000) : Calls Try.prog 38 #[.agg (qV 8 n s A k c)] w fun e w' => e = .returned (.bool (oneQ 8 n s k)) ∧ Below w.heap.size w w' := by
  have B0 := bel_alloc (Below.refl w.heap.size w) (.cells (qV 8 n s A k c) 24)
  unfold qV at *
  have HC := Lib.hid (fun W => refTag_any s W hs)
  by_cases hn : n = 0
  · subst hn
    have hq : oneQ 8 0 s k = (tagB s && decide (k = 0)) := by simp [oneQ, numQ, txtQ, kidQ]
    have HQ := Lib.hid hq
    clear hq
    generalize tagB s = tb at *
    cases tb with
    | false =>
      go_enter Try.func38, Try.ntmps38
      go_wp2_with fail
      (with_reducible refine (HC.out _).mono ?_)
      rintro e w1 ⟨rfl, hb1⟩
      go_wp2_with fail
      go_ret
      exact ⟨by rw [HQ.out]; rfl, bel_step (bel_alloc (Below.refl _ _) _) hb1⟩
    | true =>
      have HX := Lib.hid (Blk.new w 24 (qV 8 0 s A k c))
      simp only [qV] at HX
      go_enter Try.func38, Try.ntmps38
      go_wp2_with fail
      (with_reducible refine (HC.out _).mono ?_)
      rintro e w1 ⟨rfl, hb1⟩
      obtain ⟨-, -, x2, x3⟩ := box_facts (HX.out.below hb1 HX.out.lt)
      go_wp2_with fail
      go_ret
      exact ⟨retb (by rw [HQ.out, Bool.eq_iff_iff]; simp; try omega), bel_step (bel_alloc (Below.refl _ _) _) hb1⟩
  · have hn2 : (n == 0) = false := by simpa using hn
    have hq : oneQ 8 n s k = false := by simp [oneQ, numQ, hn]
    have HQ := Lib.hid hq
    clear hq hn
    by_cases h0 : s = []
    · subst h0
      go_enter Try.func38, Try.ntmps38
      go_wp2_with fail
      all_goals
        go_ret
        exact ⟨by rw [HQ.out]; rfl, bel_alloc (Below.refl _ _) _⟩
    · have hs2 : s.isEmpty = false := by simpa using h0
      go_enter Try.func38, Try.ntmps38
      go_wp2_with fail
      all_goals
        go_ret
        exact ⟨by rw [HQ.out]; rfl, bel_alloc (Below.refl _ _) _⟩
set_option maxHeartbeats 2000000 in
theorem plain25_9 (n : Int) (s : List UInt8) (A : Option Addr) (k c : Nat) (w : World) (hs : s.length ≤ 20000) : Calls Try.prog 38 #[.agg (qV 9 n s A k c)] w fun e w' => e = .returned (.bool (oneQ 9 n s k)) ∧ Below w.heap.size w w' := by
  have B0 := bel_alloc (Below.refl w.heap.size w) (.cells (qV 9 n s A k c) 24)
  unfold qV at *
  by_cases hn : n = 0
  · subst hn
    by_cases h0 : s = []
    · subst h0
      go_enter Try.func38, Try.ntmps38
      go_wp2_with fail
      all_goals
        go_ret
        exact ⟨retb (by rw [Bool.eq_iff_iff]; simp [oneQ, numQ, txtQ, kidQ]; try omega), bel_alloc (Below.refl _ _) _⟩
    · have hs2 : s.isEmpty = false := by simpa using h0
      have hq : oneQ 9 0 s k = false := by simp [oneQ, txtQ, h0]
      have HQ := Lib.hid hq
      clear hq
      go_enter Try.func38, Try.ntmps38
      go_wp2_with fail
      all_goals
        go_ret
        exact ⟨by rw [HQ.out]; rfl, bel_alloc (Below.refl _ _) _⟩
  · have hn2 : (n == 0) = false := by simpa using hn
    have HNN := Lib.hid hn
    clear hn
    by_cases h0 : s = []
    · subst h0
      go_enter Try.func38, Try.ntmps38
      go_wp2_with fail
      all_goals
        go_ret
        exact ⟨retb (by rw [Bool.eq_iff_iff]; simp [oneQ, numQ, txtQ, kidQ, HNN.out]; try omega), bel_alloc (Below.refl _ _) _⟩
    · have hs2 : s.isEmpty = false := by simpa using h0
      have hq : oneQ 9 n s k = false := by simp [oneQ, txtQ, h0]
      have HQ := Lib.hid hq
      clear hq
      go_enter Try.func38, Try.ntmps38
      go_wp2_with fail
      all_goals
        go_ret
        exact ⟨by rw [HQ.out]; rfl, bel_alloc (Below.refl _ _) _⟩
set_option maxHeartbeats 2000000 in
theorem plain25_10 (n : Int) (s : List UInt8) (A : Option Addr) (k c : Nat) (w : World) (hs : s.length ≤ 20000) : Calls Try.prog 38 #[.agg (qV 10 n s A k c)] w fun e w' => e = .returned (.bool (oneQ 10 n s k)) ∧ Below w.heap.size w w' := by
  have B0 := bel_alloc (Below.refl w.heap.size w) (.cells (qV 10 n s A k c) 24)
  unfold qV at *
  by_cases hn : n = 0
  · subst hn
    by_cases h0 : s = []
    · subst h0
      go_enter Try.func38, Try.ntmps38
      go_wp2_with fail
      all_goals
        go_ret
        exact ⟨retb (by rw [Bool.eq_iff_iff]; simp [oneQ, numQ, txtQ, kidQ]; try omega), bel_alloc (Below.refl _ _) _⟩
    · have hs2 : s.isEmpty = false := by simpa using h0
      have hq : oneQ 10 0 s k = false := by simp [oneQ, txtQ, h0]
      have HQ := Lib.hid hq
      clear hq
      go_enter Try.func38, Try.ntmps38
      go_wp2_with fail
      all_goals
        go_ret
        exact ⟨by rw [HQ.out]; rfl, bel_alloc (Below.refl _ _) _⟩
  · have hn2 : (n == 0) = false := by simpa using hn
    have HNN := Lib.hid hn
    clear hn
    by_cases h0 : s = []
    · subst h0
      go_enter Try.func38, Try.ntmps38
      go_wp2_with fail
      all_goals
        go_ret
        exact ⟨retb (by rw [Bool.eq_iff_iff]; simp [oneQ, numQ, txtQ, kidQ, HNN.out]; try omega), bel_alloc (Below.refl _ _) _⟩
    · have hs2 : s.isEmpty = false := by simpa using h0
      have hq : oneQ 10 n s k = false := by simp [oneQ, txtQ, h0]
      have HQ := Lib.hid hq
      clear hq
      go_enter Try.func38, Try.ntmps38
      go_wp2_with fail
      all_goals
        go_ret
        exact ⟨by rw [HQ.out]; rfl, bel_alloc (Below.refl _ _) _⟩
set_option maxHeartbeats 2000000 in
theorem plain25_11 (n : Int) (s : List UInt8) (A : Option Addr) (k c : Nat) (w : World) (hs : s.length ≤ 20000) : Calls Try.prog 38 #[.agg (qV 11 n s A k c)] w fun e w' => e = .returned (.bool (oneQ 11 n s k)) ∧ Below w.heap.size w w' := by
  have B0 := bel_alloc (Below.refl w.heap.size w) (.cells (qV 11 n s A k c) 24)
  unfold qV at *
  have HC := Lib.hid (fun W => word25_any s W hs)
  by_cases hn : n = 0
  · subst hn
    have hq : oneQ 11 0 s k = (wordB s && decide (k = 0)) := by simp [oneQ, numQ, txtQ, kidQ]
    have HQ := Lib.hid hq
    clear hq
    generalize wordB s = tb at *
    cases tb with
    | false =>
      go_enter Try.func38, Try.ntmps38
      go_wp2_with fail
      (with_reducible refine (HC.out _).mono ?_)
      rintro e w1 ⟨rfl, hb1⟩
      go_wp2_with fail
      go_ret
      exact ⟨by rw [HQ.out]; rfl, bel_step (bel_alloc (Below.refl _ _) _) hb1⟩
    | true =>
      have HX := Lib.hid (Blk.new w 24 (qV 11 0 s A k c))
      simp only [qV] at HX
      go_enter Try.func38, Try.ntmps38
      go_wp2_with fail
      (with_reducible refine (HC.out _).mono ?_)
      rintro e w1 ⟨rfl, hb1⟩
      obtain ⟨-, -, x2, x3⟩ := box_facts (HX.out.below hb1 HX.out.lt)
      go_wp2_with fail
      go_ret
      exact ⟨retb (by rw [HQ.out, Bool.eq_iff_iff]; simp; try omega), bel_step (bel_alloc (Below.refl _ _) _) hb1⟩
  · have hn2 : (n == 0) = false := by simpa using hn
    have hq : oneQ 11 n s k = false := by simp [oneQ, numQ, hn]
    have HQ := Lib.hid hq
    clear hq hn
    by_cases h0 : s = []
    · subst h0
      go_enter Try.func38, Try.ntmps38
      go_wp2_with fail
      all_goals
        go_ret
        exact ⟨by rw [HQ.out]; rfl, bel_alloc (Below.refl _ _) _⟩
    · have hs2 : s.isEmpty = false := by simpa using h0
      go_enter Try.func38, Try.ntmps38
      go_wp2_with fail
      all_goals
        go_ret
        exact ⟨by rw [HQ.out]; rfl, bel_alloc (Below.refl _ _) _⟩
end Go.Proofs.Ytjnhhdkphcbflaa
