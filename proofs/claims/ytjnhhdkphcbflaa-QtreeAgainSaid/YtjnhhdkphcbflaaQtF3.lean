/-
  What a query may have, by the document (printed by gen_qtf.py).
-/
import Derived.Test.YtjnhhdkphcbflaaQtF
namespace Go.Proofs.Ytjnhhdkphcbflaa
open Go.RowKit Go.Nst
set_option maxRecDepth 100000
set_option linter.unusedVariables false
set_option linter.unusedSimpArgs false

set_option maxHeartbeats 2000000 in
theorem plain25_12 (n : Int) (s : List UInt8) (A : Option Addr) (k c : Nat) (w : World) (hs : s.length ≤ 20000) : Calls Try.prog 38 #[.agg (qV 12 n s A k c)] w fun e w' => e = .returned (.bool (oneQ 12 n s k)) ∧ Below w.heap.size w w' := by
  have B0 := bel_alloc (Below.refl w.heap.size w) (.cells (qV 12 n s A k c) 24)
  unfold qV at *
  have HC := Lib.hid (fun W => word25_any s W hs)
  by_cases hn : n = 0
  · subst hn
    have hq : oneQ 12 0 s k = (wordB s && decide (k = 0)) := by simp [oneQ, numQ, txtQ, kidQ]
    have HQ := Lib.hid hq
    clear hq
    generalize wordB s = tb at *
    cases tb with
    | false =>
      go_enter Try.func38, Try.ntmps38
      go_wp2_with fail
      (with_reducible refine (HC.out _).mono ?_)
      rintro e w1 ⟨rfl, hb1⟩
      go_wp2_with fail
      go_ret
      exact ⟨by rw [HQ.out]; rfl, bel_step (bel_alloc (Below.refl _ _) _) hb1⟩
    | true =>
      have HX := Lib.hid (Blk.new w 24 (qV 12 0 s A k c))
      simp only [qV] at HX
      go_enter Try.func38, Try.ntmps38
      go_wp2_with fail
      (with_reducible refine (HC.out _).mono ?_)
      rintro e w1 ⟨rfl, hb1⟩
      obtain ⟨-, -, x2, x3⟩ := box_facts (HX.out.below hb1 HX.out.lt)
      go_wp2_with fail
      go_ret
      exact ⟨retb (by rw [HQ.out, Bool.eq_iff_iff]; simp; try omega), bel_step (bel_alloc (Below.refl _ _) _) hb1⟩
  · have hn2 : (n == 0) = false := by simpa using hn
    have hq : oneQ 12 n s k = false := by simp [oneQ, numQ, hn]
    have HQ := Lib.hid hq
    clear hq hn
    by_cases h0 : s = []
    · subst h0
      go_enter Try.func38, Try.ntmps38
      go_wp2_with fail
      all_goals
        go_ret
        exact ⟨by rw [HQ.out]; rfl, bel_alloc (Below.refl _ _) _⟩
    · have hs2 : s.isEmpty = false := by simpa using h0
      go_enter Try.func38, Try.ntmps38
      go_wp2_with fail
      all_goals
        go_ret
        exact ⟨by rw [HQ.out]; rfl, bel_alloc (Below.refl _ _) _⟩
set_option maxHeartbeats 2000000 in
theorem plain25_13 (n : Int) (s : List UInt8) (A : Option Addr) (k c : Nat) (w : World) (hs : s.length ≤ 20000) : Calls Try.prog 38 #[.agg (qV 13 n s A k c)] w fun e w' => e = .returned (.bool (oneQ 13 n s k)) ∧ Below w.heap.size w w' := by
  have B0 := bel_alloc (Below.refl w.heap.size w) (.cells (qV 13 n s A k c) 24)
  unfold qV at *
  have HC := Lib.hid (fun W => refMay4_any n W)
  have hq : oneQ 13 n s k = (mayM n && decide (s = []) && decide (k = 0)) := by simp [oneQ, numQ, txtQ, kidQ]
  have HQ := Lib.hid hq
  clear hq
  generalize mayM n = tb at *
  by_cases h0 : s = []
  · subst h0
    by_cases h1 : 1 ≤ n
    all_goals by_cases h2 : n ≤ 1048576
    all_goals try (exfalso; omega)
    all_goals
      cases tb
      all_goals
        have HX := Lib.hid (Blk.new w 24 #[.int .i64 13, .int .i64 n, .string ⟨#[]⟩, .slice A k c])
        go_enter Try.func38, Try.ntmps38
        go_wp2_with fail
        (with_reducible refine (HC.out _).mono ?_)
        rintro e w1 ⟨rfl, hb1⟩
        have x2 := (HX.out.below hb1 HX.out.lt).cell 2
        have x3 := (HX.out.below hb1 HX.out.lt).cell 3
        simp at x2 x3
        go_wp2_with fail
        go_ret
        exact ⟨retb (by rw [HQ.out, Bool.eq_iff_iff]; simp; try omega), bel_step (bel_alloc (Below.refl _ _) _) hb1⟩
  · have hs2 : s.isEmpty = false := by simpa using h0
    by_cases h1 : 1 ≤ n
    all_goals by_cases h2 : n ≤ 1048576
    all_goals try (exfalso; omega)
    all_goals
      cases tb
      all_goals
        have HX := Lib.hid (Blk.new w 24 (qV 13 n s A k c))
        simp only [qV] at HX
        go_enter Try.func38, Try.ntmps38
        go_wp2_with fail
        (with_reducible refine (HC.out _).mono ?_)
        rintro e w1 ⟨rfl, hb1⟩
        obtain ⟨-, -, x2, x3⟩ := box_facts (HX.out.below hb1 HX.out.lt)
        go_wp2_with fail
        go_ret
        exact ⟨retb (by rw [HQ.out, decide_eq_false h0]; rfl), bel_step (bel_alloc (Below.refl _ _) _) hb1⟩
set_option maxHeartbeats 2000000 in
theorem plain25_14 (n : Int) (s : List UInt8) (A : Option Addr) (k c : Nat) (w : World) (hs : s.length ≤ 20000) : Calls Try.prog 38 #[.agg (qV 14 n s A k c)] w fun e w' => e = .returned (.bool (oneQ 14 n s k)) ∧ Below w.heap.size w w' := by
  have B0 := bel_alloc (Below.refl w.heap.size w) (.cells (qV 14 n s A k c) 24)
  unfold qV at *
  have HC := Lib.hid (fun W => refMay4_any n W)
  have hq : oneQ 14 n s k = (mayM n && decide (s = []) && decide (k = 0)) := by simp [oneQ, numQ, txtQ, kidQ]
  have HQ := Lib.hid hq
  clear hq
  generalize mayM n = tb at *
  by_cases h0 : s = []
  · subst h0
    by_cases h1 : 1 ≤ n
    all_goals by_cases h2 : n ≤ 1048576
    all_goals try (exfalso; omega)
    all_goals
      cases tb
      all_goals
        have HX := Lib.hid (Blk.new w 24 #[.int .i64 14, .int .i64 n, .string ⟨#[]⟩, .slice A k c])
        go_enter Try.func38, Try.ntmps38
        go_wp2_with fail
        (with_reducible refine (HC.out _).mono ?_)
        rintro e w1 ⟨rfl, hb1⟩
        have x2 := (HX.out.below hb1 HX.out.lt).cell 2
        have x3 := (HX.out.below hb1 HX.out.lt).cell 3
        simp at x2 x3
        go_wp2_with fail
        go_ret
        exact ⟨retb (by rw [HQ.out, Bool.eq_iff_iff]; simp; try omega), bel_step (bel_alloc (Below.refl _ _) _) hb1⟩
  · have hs2 : s.isEmpty = false := by simpa using h0
    by_cases h1 : 1 ≤ n
    all_goals by_cases h2 : n ≤ 1048576
    all_goals try (exfalso; omega)
    all_goals
      cases tb
      all_goals
        have HX := Lib.hid (Blk.new w 24 (qV 14 n s A k c))
        simp only [qV] at HX
        go_enter Try.func38, Try.ntmps38
        go_wp2_with fail
        (with_reducible refine (HC.out _).mono ?_)
        rintro e w1 ⟨rfl, hb1⟩
        obtain ⟨-, -, x2, x3⟩ := box_facts (HX.out.below hb1 HX.out.lt)
        go_wp2_with fail
        go_ret
        exact ⟨retb (by rw [HQ.out, decide_eq_false h0]; rfl), bel_step (bel_alloc (Below.refl _ _) _) hb1⟩
set_option maxHeartbeats 2000000 in
theorem plain25_15 (n : Int) (s : List UInt8) (A : Option Addr) (k c : Nat) (w : World) (hs : s.length ≤ 20000) : Calls Try.prog 38 #[.agg (qV 15 n s A k c)] w fun e w' => e = .returned (.bool (oneQ 15 n s k)) ∧ Below w.heap.size w w' := by
  have B0 := bel_alloc (Below.refl w.heap.size w) (.cells (qV 15 n s A k c) 24)
  unfold qV at *
  by_cases h0 : s = []
  · subst h0
    go_enter Try.func38, Try.ntmps38
    go_wp2_with fail
    all_goals
      go_ret
      exact ⟨retb (by rw [Bool.eq_iff_iff]; simp [oneQ, numQ, txtQ, kidQ]; try omega), bel_alloc (Below.refl _ _) _⟩
  · have hs2 : s.isEmpty = false := by simpa using h0
    have hq : oneQ 15 n s k = false := by simp [oneQ, txtQ, h0]
    have HQ := Lib.hid hq
    clear hq
    go_enter Try.func38, Try.ntmps38
    go_wp2_with fail
    all_goals
      go_ret
      exact ⟨by rw [HQ.out]; rfl, bel_alloc (Below.refl _ _) _⟩
end Go.Proofs.Ytjnhhdkphcbflaa
