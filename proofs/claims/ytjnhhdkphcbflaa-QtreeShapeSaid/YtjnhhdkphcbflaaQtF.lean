/-
  The document's word; what a query may have, by the document (printed by gen_qtf.py).
-/
import Derived.Test.YtjnhhdkphcbflaaQtE
namespace Go.Proofs.Ytjnhhdkphcbflaa
open Go.RowKit Go.Nst
set_option maxRecDepth 100000
set_option linter.unusedVariables false
set_option linter.unusedSimpArgs false

theorem word25_any (l : List UInt8) (w : World) (hS : l.length ≤ 20000) : Calls Try.prog 50 #[.string ⟨l.toArray⟩] w fun e w' => e = .returned (.bool (wordB l)) ∧ Below w.heap.size w w' := by
  have HB : Hid (wordB l = (wordsL l == [l])) := rfl
  have HW := Lib.hid (fun W => refWords_any l W (by omega))
  have hwl := wordsL_len l
  generalize wordsL l = ws at *
  go_enter Try.func50, Try.ntmps50
  go_wp2_with fail
  (with_reducible refine (HW.out _).mono ?_)
  rintro e w2 ⟨A2, n2, c2, rfl, ho2, B2⟩
  have q2 := ho2.ss
  have hn2 := q2.len
  clear ho2
  have hx := Ss.const w2 [l] #[.string ⟨l.toArray⟩] 9 (0, 0) 1 rfl rfl
  have q2' := q2.below (bel_alloc (Below.refl _ _) (.cells #[.string ⟨l.toArray⟩] 9))
  go_wp2_with fail
  (with_reducible refine (sameS_any A2 _ n2 c2 1 1 ws [l] _ q2' hx (by omega) (by omega)).mono ?_)
  rintro e w3 ⟨rfl, hb3⟩
  go_wp2_with fail
  go_ret
  exact ⟨by rw [HB.out]; rfl, bel_step (bel_alloc B2 _) hb3⟩
set_option maxHeartbeats 2000000 in
theorem plain25_1 (n : Int) (s : List UInt8) (A : Option Addr) (k c : Nat) (w : World) (hs : s.length ≤ 20000) : Calls Try.prog 38 #[.agg (qV 1 n s A k c)] w fun e w' => e = .returned (.bool (oneQ 1 n s k)) ∧ Below w.heap.size w w' := by
  have B0 := bel_alloc (Below.refl w.heap.size w) (.cells (qV 1 n s A k c) 24)
  unfold qV at *
  by_cases hn : n = 0
  · subst hn
    by_cases h0 : s = []
    · subst h0
      go_enter Try.func38, Try.ntmps38
      go_wp2_with fail
      all_goals
        go_ret
        exact ⟨retb (by rw [Bool.eq_iff_iff]; simp [oneQ, numQ, txtQ, kidQ]; try omega), bel_alloc (Below.refl _ _) _⟩
    · have hs2 : s.isEmpty = false := by simpa using h0
      have hq : oneQ 1 0 s k = false := by simp [oneQ, txtQ, h0]
      have HQ := Lib.hid hq
      clear hq
      go_enter Try.func38, Try.ntmps38
      go_wp2_with fail
      all_goals
        go_ret
        exact ⟨by rw [HQ.out]; rfl, bel_alloc (Below.refl _ _) _⟩
  · have hn2 : (n == 0) = false := by simpa using hn
    have HNN := Lib.hid hn
    clear hn
    by_cases h0 : s = []
    · subst h0
      go_enter Try.func38, Try.ntmps38
      go_wp2_with fail
      all_goals
        go_ret
        exact ⟨retb (by rw [Bool.eq_iff_iff]; simp [oneQ, numQ, txtQ, kidQ, HNN.out]; try omega), bel_alloc (Below.refl _ _) _⟩
    · have hs2 : s.isEmpty = false := by simpa using h0
      have hq : oneQ 1 n s k = false := by simp [oneQ, txtQ, h0]
      have HQ := Lib.hid hq
      clear hq
      go_enter Try.func38, Try.ntmps38
      go_wp2_with fail
      all_goals
        go_ret
        exact ⟨by rw [HQ.out]; rfl, bel_alloc (Below.refl _ _) _⟩
set_option maxHeartbeats 2000000 in
theorem plain25_2 (n : Int) (s : List UInt8) (A : Option Addr) (k c : Nat) (w : World) (hs : s.length ≤ 20000) : Calls Try.prog 38 #[.agg (qV 2 n s A k c)] w fun e w' => e = .returned (.bool (oneQ 2 n s k)) ∧ Below w.heap.size w w' := by
  have B0 := bel_alloc (Below.refl w.heap.size w) (.cells (qV 2 n s A k c) 24)
  unfold qV at *
  by_cases hn : n = 0
  · subst hn
    by_cases h0 : s = []
    · subst h0
      go_enter Try.func38, Try.ntmps38
      go_wp2_with fail
      all_goals
        go_ret
        exact ⟨retb (by rw [Bool.eq_iff_iff]; simp [oneQ, numQ, txtQ, kidQ]; try omega), bel_alloc (Below.refl _ _) _⟩
    · have hs2 : s.isEmpty = false := by simpa using h0
      have hq : oneQ 2 0 s k = false := by simp [oneQ, txtQ, h0]
      have HQ := Lib.hid hq
      clear hq
      go_enter Try.func38, Try.ntmps38
      go_wp2_with fail
      all_goals
        go_ret
        exact ⟨by rw [HQ.out]; rfl, bel_alloc (Below.refl _ _) _⟩
  · have hn2 : (n == 0) = false := by simpa using hn
    have HNN := Lib.hid hn
    clear hn
    by_cases h0 : s = []
    · subst h0
      go_enter Try.func38, Try.ntmps38
      go_wp2_with fail
      all_goals
        go_ret
        exact ⟨retb (by rw [Bool.eq_iff_iff]; simp [oneQ, numQ, txtQ, kidQ, HNN.out]; try omega), bel_alloc (Below.refl _ _) _⟩
    · have hs2 : s.isEmpty = false := by simpa using h0
      have hq : oneQ 2 n s k = false := by simp [oneQ, txtQ, h0]
      have HQ := Lib.hid hq
      clear hq
      go_enter Try.func38, Try.ntmps38
      go_wp2_with fail
      all_goals
        go_ret
        exact ⟨by rw [HQ.out]; rfl, bel_alloc (Below.refl _ _) _⟩
set_option maxHeartbeats 2000000 in
theorem plain25_3 (n : Int) (s : List UInt8) (A : Option Addr) (k c : Nat) (w : World) (hs : s.length ≤ 20000) : Calls Try.prog 38 #[.agg (qV 3 n s A k c)] w fun e w' => e = .returned (.bool (oneQ 3 n s k)) ∧ Below w.heap.size w w' := by
  have B0 := bel_alloc (Below.refl w.heap.size w) (.cells (qV 3 n s A k c) 24)
  unfold qV at *
  by_cases hn : n = 0
  · subst hn
    by_cases h0 : s = []
    · subst h0
      go_enter Try.func38, Try.ntmps38
      go_wp2_with fail
      all_goals
        go_ret
        exact ⟨retb (by rw [Bool.eq_iff_iff]; simp [oneQ, numQ, txtQ, kidQ]; try omega), bel_alloc (Below.refl _ _) _⟩
    · have hs2 : s.isEmpty = false := by simpa using h0
      have hq : oneQ 3 0 s k = false := by simp [oneQ, txtQ, h0]
      have HQ := Lib.hid hq
      clear hq
      go_enter Try.func38, Try.ntmps38
      go_wp2_with fail
      all_goals
        go_ret
        exact ⟨by rw [HQ.out]; rfl, bel_alloc (Below.refl _ _) _⟩
  · have hn2 : (n == 0) = false := by simpa using hn
    have HNN := Lib.hid hn
    clear hn
    by_cases h0 : s = []
    · subst h0
      go_enter Try.func38, Try.ntmps38
      go_wp2_with fail
      all_goals
        go_ret
        exact ⟨retb (by rw [Bool.eq_iff_iff]; simp [oneQ, numQ, txtQ, kidQ, HNN.out]; try omega), bel_alloc (Below.refl _ _) _⟩
    · have hs2 : s.isEmpty = false := by simpa using h0
      have hq : oneQ 3 n s k = false := by simp [oneQ, txtQ, h0]
      have HQ := Lib.hid hq
      clear hq
      go_enter Try.func38, Try.ntmps38
      go_wp2_with fail
      all_goals
        go_ret
        exact ⟨by rw [HQ.out]; rfl, bel_alloc (Below.refl _ _) _⟩
set_option maxHeartbeats 2000000 in
theorem plain25_4 (n : Int) (s : List UInt8) (A : Option Addr) (k c : Nat) (w : World) (hs : s.length ≤ 20000) : Calls Try.prog 38 #[.agg (qV 4 n s A k c)] w fun e w' => e = .returned (.bool (oneQ 4 n s k)) ∧ Below w.heap.size w w' := by
  have B0 := bel_alloc (Below.refl w.heap.size w) (.cells (qV 4 n s A k c) 24)
  unfold qV at *
  by_cases hn : n = 0
  · subst hn
    by_cases h0 : s = []
    · subst h0
      go_enter Try.func38, Try.ntmps38
      go_wp2_with fail
      all_goals
        go_ret
        exact ⟨retb (by rw [Bool.eq_iff_iff]; simp [oneQ, numQ, txtQ, kidQ]; try omega), bel_alloc (Below.refl _ _) _⟩
    · have hs2 : s.isEmpty = false := by simpa using h0
      have hq : oneQ 4 0 s k = false := by simp [oneQ, txtQ, h0]
      have HQ := Lib.hid hq
      clear hq
      go_enter Try.func38, Try.ntmps38
      go_wp2_with fail
      all_goals
        go_ret
        exact ⟨by rw [HQ.out]; rfl, bel_alloc (Below.refl _ _) _⟩
  · have hn2 : (n == 0) = false := by simpa using hn
    have HNN := Lib.hid hn
    clear hn
    by_cases h0 : s = []
    · subst h0
      go_enter Try.func38, Try.ntmps38
      go_wp2_with fail
      all_goals
        go_ret
        exact ⟨retb (by rw [Bool.eq_iff_iff]; simp [oneQ, numQ, txtQ, kidQ, HNN.out]; try omega), bel_alloc (Below.refl _ _) _⟩
    · have hs2 : s.isEmpty = false := by simpa using h0
      have hq : oneQ 4 n s k = false := by simp [oneQ, txtQ, h0]
      have HQ := Lib.hid hq
      clear hq
      go_enter Try.func38, Try.ntmps38
      go_wp2_with fail
      all_goals
        go_ret
        exact ⟨by rw [HQ.out]; rfl, bel_alloc (Below.refl _ _) _⟩
set_option maxHeartbeats 2000000 in
theorem plain25_5 (n : Int) (s : List UInt8) (A : Option Addr) (k c : Nat) (w : World) (hs : s.length ≤ 20000) : Calls Try.prog 38 #[.agg (qV 5 n s A k c)] w fun e w' => e = .returned (.bool (oneQ 5 n s k)) ∧ Below w.heap.size w w' := by
  have B0 := bel_alloc (Below.refl w.heap.size w) (.cells (qV 5 n s A k c) 24)
  unfold qV at *
  by_cases hn : n = 0
  · subst hn
    by_cases h0 : s = []
    · subst h0
      go_enter Try.func38, Try.ntmps38
      go_wp2_with fail
      all_goals
        go_ret
        exact ⟨retb (by rw [Bool.eq_iff_iff]; simp [oneQ, numQ, txtQ, kidQ]; try omega), bel_alloc (Below.refl _ _) _⟩
    · have hs2 : s.isEmpty = false := by simpa using h0
      have hq : oneQ 5 0 s k = false := by simp [oneQ, txtQ, h0]
      have HQ := Lib.hid hq
      clear hq
      go_enter Try.func38, Try.ntmps38
      go_wp2_with fail
      all_goals
        go_ret
        exact ⟨by rw [HQ.out]; rfl, bel_alloc (Below.refl _ _) _⟩
  · have hn2 : (n == 0) = false := by simpa using hn
    have HNN := Lib.hid hn
    clear hn
    by_cases h0 : s = []
    · subst h0
      go_enter Try.func38, Try.ntmps38
      go_wp2_with fail
      all_goals
        go_ret
        exact ⟨retb (by rw [Bool.eq_iff_iff]; simp [oneQ, numQ, txtQ, kidQ, HNN.out]; try omega), bel_alloc (Below.refl _ _) _⟩
    · have hs2 : s.isEmpty = false := by simpa using h0
      have hq : oneQ 5 n s k = false := by simp [oneQ, txtQ, h0]
      have HQ := Lib.hid hq
      clear hq
      go_enter Try.func38, Try.ntmps38
      go_wp2_with fail
      all_goals
        go_ret
        exact ⟨by rw [HQ.out]; rfl, bel_alloc (Below.refl _ _) _⟩
end Go.Proofs.Ytjnhhdkphcbflaa
