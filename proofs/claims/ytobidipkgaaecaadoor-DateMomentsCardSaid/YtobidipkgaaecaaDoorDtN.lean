/-
  Dates of the mail: year, clock, part (printed by gen_dtn.py).
-/
import Derived.Test.YtobidipkgaaecaaDoorDtM
namespace Go.Proofs.YtobidipkgaaecaaDoor
open Go.RowKit Go.Nst
set_option maxRecDepth 100000
set_option linter.unusedVariables false
set_option linter.unusedSimpArgs false

set_option maxHeartbeats 4000000 in
theorem rd_year (g : Nat) (r : RD) (w : World) (hR : Rdd w g r) (hl : r.l.length ≤ 100000) :
    Calls Tryd.prog 47 #[.pointer (some ⟨g, 0, none⟩)] w (RetD w g (.int .i64 (rdYear r).1) (rdYear r).2) := by
  have H2 := Lib.hid (rd_digits2 g r w hR hl)
  have H4 := Lib.hid (rd_digits4 g r w hR hl)
  have b2 := dig2_bd r
  have HV : Hid (rdYear r = if r.l.length ≠ 2 then rdDig 4 r else (if 50 ≤ (rdDig 2 r).1 then 1900 + (rdDig 2 r).1 else 2000 + (rdDig 2 r).1, (rdDig 2 r).2)) := rfl
  generalize rdDig 2 r = q2 at *
  generalize rdDig 4 r = q4 at *
  obtain ⟨v2, r2⟩ := q2
  obtain ⟨v4, r4⟩ := q4
  obtain ⟨l, b⟩ := r
  simp only at hl b2 H2 H4 HV
  have hg := Blk.lt hR
  have c0 := Blk.cell hR 0
  simp at c0
  clear hR
  by_cases h2 : l.length = 2
  · have d1 : ((l.length : Int) != 2) = false := by simp; omega
    have d2 : decide ((l.length : Int) = 2) = true := by simp; omega
    have HW := HV.out
    rw [if_neg (by simpa using h2)] at HW
    by_cases h50 : 50 ≤ v2
    · rw [if_pos h50] at HW
      have HW := Lib.hid HW
      have d3 : decide (50 ≤ v2) = true := by simpa using h50
      have k1 : IntKind.i64.wrap (1900 + v2) = 1900 + v2 := IntWalk.i64_in _ (by omega)
      clear HV
      go_enter Tryd.func47, Tryd.ntmps47
      go_wp2_with fail
      (with_reducible refine (H2.out).mono ?_)
      rintro e w1 ⟨rfl, hR1, hg1⟩
      go_wp2_with fail
      go_ret
      rw [HW.out]
      exact ⟨rfl, hR1, hg1⟩
    · rw [if_neg h50] at HW
      have HW := Lib.hid HW
      have d3 : decide (50 ≤ v2) = false := by simpa using h50
      have k1 : IntKind.i64.wrap (2000 + v2) = 2000 + v2 := IntWalk.i64_in _ (by omega)
      clear HV
      go_enter Tryd.func47, Tryd.ntmps47
      go_wp2_with fail
      (with_reducible refine (H2.out).mono ?_)
      rintro e w1 ⟨rfl, hR1, hg1⟩
      go_wp2_with fail
      go_ret
      rw [HW.out]
      exact ⟨rfl, hR1, hg1⟩
  · have d1 : ((l.length : Int) != 2) = true := by simp; omega
    have d2 : decide ((l.length : Int) = 2) = false := by simp; omega
    have HW := HV.out
    rw [if_pos (by simpa using h2)] at HW
    have HW := Lib.hid HW
    clear HV
    go_enter Tryd.func47, Tryd.ntmps47
    go_wp2_with fail
    (with_reducible refine (H4.out).mono ?_)
    rintro e w1 ⟨rfl, hR1, hg1⟩
    go_wp2_with fail
    go_ret
    rw [HW.out]
    exact ⟨rfl, hR1, hg1⟩
set_option maxHeartbeats 8000000 in
theorem rd_clock (g : Nat) (r : RD) (w : World) (hR : Rdd w g r) (hl : r.l.length ≤ 100000) :
    Calls Tryd.prog 48 #[.pointer (some ⟨g, 0, none⟩)] w (RetD w g (.int .i64 (rdClock r).1) (rdClock r).2) := by
  have HV : Hid (rdClock r = (3600 * (clk1 r).1 + 60 * (clk2 r).1 + (clk3 r).1, ⟨(clk3 r).2.l, (clk3 r).2.bad || (decide (23 < (clk1 r).1) || decide (59 < (clk2 r).1) || decide (59 < (clk3 r).1))⟩)) := rfl
  have H1 := Lib.hid (rd_digits2 g r w hR hl)
  have m1 := len_dig 2 r
  have b1 := dig2_bd r
  have E1 : clk1 r = rdDig 2 r := rfl
  have E2 : clk2 r = rdDig 2 (rdSign [58] (clk1 r).2).2 := rfl
  have E3 : clk3 r = if (clk2 r).2.l = [] then (0, (clk2 r).2) else rdDig 2 (rdSign [58] (clk2 r).2).2 := rfl
  rw [E1] at E2 HV
  generalize clk3 r = q3 at *
  generalize clk2 r = q2 at *
  clear E1
  generalize rdDig 2 r = q1 at *
  obtain ⟨v1, r1⟩ := q1
  simp only at H1 m1 b1 E2 HV
  have K2 := Lib.hid (fun W k => rd_sign g [58] r1 W k (by omega) (by simp))
  have n2 := len_sign [58] r1
  generalize rdSign [58] r1 = p2 at *
  obtain ⟨_, s2⟩ := p2
  simp only at K2 n2 E2
  have H2 := Lib.hid (fun W k => rd_digits2 g s2 W k (by omega))
  have m2 := len_dig 2 s2
  have b2 := dig2_bd s2
  rw [← E2] at H2 m2 b2
  clear E2
  obtain ⟨v2, r2⟩ := q2
  simp only at H2 m2 b2 E3 HV
  clear hR
  have k1 : IntKind.i64.wrap (3600 * v1) = 3600 * v1 := IntWalk.i64_in _ (by omega)
  have k2 : IntKind.i64.wrap (60 * v2) = 60 * v2 := IntWalk.i64_in _ (by omega)
  have k3 : IntKind.i64.wrap (3600 * v1 + 60 * v2) = 3600 * v1 + 60 * v2 := IntWalk.i64_in _ (by omega)
  by_cases hn : r2.l = []
  · rw [if_pos hn] at E3
    subst E3
    obtain ⟨v3, hv3⟩ : ∃ v3 : Int, v3 = 0 := ⟨_, rfl⟩
    rw [Int.add_zero] at HV
    simp only at HV
    have k4 : IntKind.i64.wrap (3600 * v1 + 60 * v2 + 0) = 3600 * v1 + 60 * v2 + 0 := IntWalk.i64_in _ (by omega)
    have k5 : IntKind.i64.wrap (3600 * v1 + 60 * v2) = 3600 * v1 + 60 * v2 := k3
    obtain ⟨l2, b4⟩ := r2
    simp only at hn
    subst hn
    clear m1 m2 n2
    go_enter Tryd.func48, Tryd.ntmps48
    go_wp2_with fail
    (with_reducible refine (H1.out).mono ?_)
    rintro e w1 ⟨rfl, hR1, hg1⟩
    go_wp2_with fail
    (with_reducible refine (K2.out _ hR1).mono ?_)
    rintro e w2 ⟨rfl, hR2, hg2⟩
    have G2 := only_trans hg1 hg2
    clear hR1 hg1 hg2
    go_wp2_with fail
    (with_reducible refine (H2.out _ hR2).mono ?_)
    rintro e w3 ⟨rfl, hR4, hg3⟩
    have G4 := only_trans G2 hg3
    have c0 := Blk.cell hR4 0
    simp at c0
    clear hR2 hg3 G2 H1 K2 H2
    have hgl := Blk.lt hR4
    have f1 := Blk.cell hR4 1
    simp at f1
    have hfz := Blk.frozen hR4
    have FIN : Hid (∀ bb, Rdd (w3.setCell ⟨g, 1, none⟩ (.bool bb)) g ⟨[], bb⟩ ∧ w.grownBy (w3.setCell ⟨g, 1, none⟩ (.bool bb)) (some g)) := Lib.hid (fun bb => ⟨by have := Blk.set_ hR4 1 (.bool bb); simpa [Rdd] using this, only_setCell G4 (.inl rfl) _⟩)
    clear hR4 G4
    cases b4 with
    | true =>
      go_wp2_with fail
      go_ret
      rw [HV.out]
      exact ⟨rfl, by simpa using (FIN.out true).1, (FIN.out true).2⟩
    | false =>
      by_cases t0 : 23 < v1
      · have d0 : decide (23 < v1) = true := by simpa using t0
        rw [d0] at HV
        go_wp2_with fail
        go_ret
        rw [HV.out]
        exact ⟨rfl, by simpa using (FIN.out true).1, (FIN.out true).2⟩
      have d0 : decide (23 < v1) = false := by simpa using t0
      by_cases t1 : 59 < v2
      · have d1 : decide (59 < v2) = true := by simpa using t1
        rw [d0, d1] at HV
        go_wp2_with fail
        go_ret
        rw [HV.out]
        exact ⟨rfl, by simpa using (FIN.out true).1, (FIN.out true).2⟩
      have d1 : decide (59 < v2) = false := by simpa using t1
      rw [d0, d1, show decide ((59 : Int) < 0) = false from rfl] at HV
      go_wp2_with fail
      go_ret
      rw [HV.out]
      exact ⟨rfl, by simpa using (FIN.out false).1, (FIN.out false).2⟩
  · rw [if_neg hn] at E3
    have K3 := Lib.hid (fun W k => rd_sign g [58] r2 W k (by omega) (by simp))
    have n3 := len_sign [58] r2
    generalize rdSign [58] r2 = p3 at *
    obtain ⟨_, s3⟩ := p3
    simp only at K3 n3 E3
    have H3 := Lib.hid (fun W k => rd_digits2 g s3 W k (by omega))
    have b3 := dig2_bd s3
    rw [← E3] at H3 b3
    clear E3
    obtain ⟨v3, r3⟩ := q3
    simp only at H3 b3 HV
    have k4 : IntKind.i64.wrap (3600 * v1 + 60 * v2 + v3) = 3600 * v1 + 60 * v2 + v3 := IntWalk.i64_in _ (by omega)
    obtain ⟨l2, bb2⟩ := r2
    simp only at hn
    have e1 : (l2 == []) = false := by simpa using hn
    have e2 : l2.isEmpty = false := by cases l2 with | nil => exact absurd rfl hn | cons a t => rfl
    clear m1 m2 n2 n3
    go_enter Tryd.func48, Tryd.ntmps48
    go_wp2_with fail
    (with_reducible refine (H1.out).mono ?_)
    rintro e w1 ⟨rfl, hR1, hg1⟩
    go_wp2_with fail
    (with_reducible refine (K2.out _ hR1).mono ?_)
    rintro e w2 ⟨rfl, hR2, hg2⟩
    have G2 := only_trans hg1 hg2
    clear hR1 hg1 hg2
    go_wp2_with fail
    (with_reducible refine (H2.out _ hR2).mono ?_)
    rintro e w3 ⟨rfl, hR3, hg3⟩
    have G3 := only_trans G2 hg3
    have c0 := Blk.cell hR3 0
    simp at c0
    have hgl := Blk.lt hR3
    clear hR2 hg3 G2 H1 K2 H2
    go_wp2_with fail
    (with_reducible refine (K3.out _ hR3).mono ?_)
    rintro e w5 ⟨rfl, hR5, hg5⟩
    have G5 := only_trans G3 hg5
    clear hR3 hg5 G3 c0 hgl
    go_wp2_with fail
    (with_reducible refine (H3.out _ hR5).mono ?_)
    rintro e w6 ⟨rfl, hR4, hg6⟩
    have G4 := only_trans G5 hg6
    have hgl := Blk.lt hR4
    clear hR5 hg6 G5 K3 H3
    obtain ⟨l4, b4⟩ := r3
    have f1 := Blk.cell hR4 1
    simp at f1
    have hfz := Blk.frozen hR4
    have FIN : Hid (∀ bb, Rdd (w6.setCell ⟨g, 1, none⟩ (.bool bb)) g ⟨l4, bb⟩ ∧ w.grownBy (w6.setCell ⟨g, 1, none⟩ (.bool bb)) (some g)) := Lib.hid (fun bb => ⟨by have := Blk.set_ hR4 1 (.bool bb); simpa [Rdd] using this, only_setCell G4 (.inl rfl) _⟩)
    clear hR4 G4
    simp only at HV
    cases b4 with
    | true =>
      go_wp2_with fail
      go_ret
      rw [HV.out]
      exact ⟨rfl, by simpa using (FIN.out true).1, (FIN.out true).2⟩
    | false =>
      by_cases t0 : 23 < v1
      · have d0 : decide (23 < v1) = true := by simpa using t0
        rw [d0] at HV
        go_wp2_with fail
        go_ret
        rw [HV.out]
        exact ⟨rfl, by simpa using (FIN.out true).1, (FIN.out true).2⟩
      have d0 : decide (23 < v1) = false := by simpa using t0
      by_cases t1 : 59 < v2
      · have d1 : decide (59 < v2) = true := by simpa using t1
        rw [d0, d1] at HV
        go_wp2_with fail
        go_ret
        rw [HV.out]
        exact ⟨rfl, by simpa using (FIN.out true).1, (FIN.out true).2⟩
      have d1 : decide (59 < v2) = false := by simpa using t1
      by_cases t2 : 59 < v3
      · have d2 : decide (59 < v3) = true := by simpa using t2
        rw [d0, d1, d2] at HV
        go_wp2_with fail
        go_ret
        rw [HV.out]
        exact ⟨rfl, by simpa using (FIN.out true).1, (FIN.out true).2⟩
      have d2 : decide (59 < v3) = false := by simpa using t2
      rw [d0, d1, d2] at HV
      go_wp2_with fail
      go_ret
      rw [HV.out]
      exact ⟨rfl, by simpa using (FIN.out false).1, (FIN.out false).2⟩
set_option maxHeartbeats 4000000 in
theorem part_day (g : Nat) (r : RD) (s : List UInt8) (v : Int) (r2 : RD) (w : World) (hR : Rdd w g r) (hf : ∀ W g', Rdd W g' ⟨s, false⟩ → Calls Tryd.prog 45 #[.pointer (some ⟨g', 0, none⟩)] W (RetD W g' (.int .i64 v) r2)) :
    Calls Tryd.prog 44 #[.pointer (some ⟨g, 0, none⟩), .string ⟨s.toArray⟩, .func (.func 45) #[] #[]] w (RetD w g (.int .i64 v) ⟨r.l, r.bad || partB r2⟩) := by
  have HF := Lib.hid hf
  clear hf
  have B0 := bel_alloc (Below.refl w.heap.size w) (.cells #[.string ⟨s.toArray⟩, .bool false] 50)
  have hn0 : Rdd (w.alloc (.cells #[.string ⟨s.toArray⟩, .bool false] 50)) w.heap.size ⟨s, false⟩ := Blk.new w _ _
  have hgl := Blk.lt hR
  have hR0 := hR.below B0
  obtain ⟨l, b⟩ := r
  obtain ⟨l2, b2⟩ := r2
  have HV : Hid ((b || partB ⟨l2, b2⟩) = (b || (b2 || !l2.isEmpty))) := rfl
  simp only
  clear hR
  go_enter Tryd.func44, Tryd.ntmps44
  go_wp2_with fail
  (with_reducible refine (HF.out _ _ hn0).mono ?_)
  rintro e w1 ⟨rfl, hn1, hg1⟩
  have B1 := below_only B0 hg1 (Nat.le_refl _) B0.size
  have hR1 : Rdd w1 g ⟨l, b⟩ := Blk.grown hR0 hg1 (by intro e; injection e with e; omega)
  have c0 := Blk.cell hR1 0
  have c1 := Blk.cell hR1 1
  have n0 := Blk.cell hn1 0
  have n1 := Blk.cell hn1 1
  simp at c0 c1 n0 n1
  have hfz := Blk.frozen hR1
  clear hg1 hn0 hR0 B0 hn1
  cases b with
  | true =>
    rw [show (true || (b2 || !l2.isEmpty)) = true from rfl] at HV
    go_wp2_with fail
    go_ret
    rw [HV.out]
    exact ⟨rfl, by have := Blk.set_ hR1 1 (.bool true); simpa [Rdd] using this, only_setCell (only_of_below B1 _) (.inl rfl) _⟩
  | false =>
    cases b2 with
    | true =>
      rw [show (false || (true || !l2.isEmpty)) = true from rfl] at HV
      go_wp2_with fail
      go_ret
      rw [HV.out]
      exact ⟨rfl, by have := Blk.set_ hR1 1 (.bool true); simpa [Rdd] using this, only_setCell (only_of_below B1 _) (.inl rfl) _⟩
    | false =>
      by_cases hl2 : l2 = []
      · subst hl2
        go_wp2_with fail
        go_ret
        rw [HV.out]
        exact ⟨rfl, by have := Blk.set_ hR1 1 (.bool false); simpa [Rdd] using this, only_setCell (only_of_below B1 _) (.inl rfl) _⟩
      · have e1 : (l2 == []) = false := by simpa using hl2
        have e2 : l2.isEmpty = false := by cases l2 with | nil => exact absurd rfl hl2 | cons a t => rfl
        rw [e2] at HV
        go_wp2_with fail
        go_ret
        rw [HV.out]
        exact ⟨rfl, by have := Blk.set_ hR1 1 (.bool true); simpa [Rdd] using this, only_setCell (only_of_below B1 _) (.inl rfl) _⟩
set_option maxHeartbeats 4000000 in
theorem part_year (g : Nat) (r : RD) (s : List UInt8) (v : Int) (r2 : RD) (w : World) (hR : Rdd w g r) (hf : ∀ W g', Rdd W g' ⟨s, false⟩ → Calls Tryd.prog 47 #[.pointer (some ⟨g', 0, none⟩)] W (RetD W g' (.int .i64 v) r2)) :
    Calls Tryd.prog 44 #[.pointer (some ⟨g, 0, none⟩), .string ⟨s.toArray⟩, .func (.func 47) #[] #[]] w (RetD w g (.int .i64 v) ⟨r.l, r.bad || partB r2⟩) := by
  have HF := Lib.hid hf
  clear hf
  have B0 := bel_alloc (Below.refl w.heap.size w) (.cells #[.string ⟨s.toArray⟩, .bool false] 50)
  have hn0 : Rdd (w.alloc (.cells #[.string ⟨s.toArray⟩, .bool false] 50)) w.heap.size ⟨s, false⟩ := Blk.new w _ _
  have hgl := Blk.lt hR
  have hR0 := hR.below B0
  obtain ⟨l, b⟩ := r
  obtain ⟨l2, b2⟩ := r2
  have HV : Hid ((b || partB ⟨l2, b2⟩) = (b || (b2 || !l2.isEmpty))) := rfl
  simp only
  clear hR
  go_enter Tryd.func44, Tryd.ntmps44
  go_wp2_with fail
  (with_reducible refine (HF.out _ _ hn0).mono ?_)
  rintro e w1 ⟨rfl, hn1, hg1⟩
  have B1 := below_only B0 hg1 (Nat.le_refl _) B0.size
  have hR1 : Rdd w1 g ⟨l, b⟩ := Blk.grown hR0 hg1 (by intro e; injection e with e; omega)
  have c0 := Blk.cell hR1 0
  have c1 := Blk.cell hR1 1
  have n0 := Blk.cell hn1 0
  have n1 := Blk.cell hn1 1
  simp at c0 c1 n0 n1
  have hfz := Blk.frozen hR1
  clear hg1 hn0 hR0 B0 hn1
  cases b with
  | true =>
    rw [show (true || (b2 || !l2.isEmpty)) = true from rfl] at HV
    go_wp2_with fail
    go_ret
    rw [HV.out]
    exact ⟨rfl, by have := Blk.set_ hR1 1 (.bool true); simpa [Rdd] using this, only_setCell (only_of_below B1 _) (.inl rfl) _⟩
  | false =>
    cases b2 with
    | true =>
      rw [show (false || (true || !l2.isEmpty)) = true from rfl] at HV
      go_wp2_with fail
      go_ret
      rw [HV.out]
      exact ⟨rfl, by have := Blk.set_ hR1 1 (.bool true); simpa [Rdd] using this, only_setCell (only_of_below B1 _) (.inl rfl) _⟩
    | false =>
      by_cases hl2 : l2 = []
      · subst hl2
        go_wp2_with fail
        go_ret
        rw [HV.out]
        exact ⟨rfl, by have := Blk.set_ hR1 1 (.bool false); simpa [Rdd] using this, only_setCell (only_of_below B1 _) (.inl rfl) _⟩
      · have e1 : (l2 == []) = false := by simpa using hl2
        have e2 : l2.isEmpty = false := by cases l2 with | nil => exact absurd rfl hl2 | cons a t => rfl
        rw [e2] at HV
        go_wp2_with fail
        go_ret
        rw [HV.out]
        exact ⟨rfl, by have := Blk.set_ hR1 1 (.bool true); simpa [Rdd] using this, only_setCell (only_of_below B1 _) (.inl rfl) _⟩
set_option maxHeartbeats 4000000 in
theorem part_clock (g : Nat) (r : RD) (s : List UInt8) (v : Int) (r2 : RD) (w : World) (hR : Rdd w g r) (hf : ∀ W g', Rdd W g' ⟨s, false⟩ → Calls Tryd.prog 48 #[.pointer (some ⟨g', 0, none⟩)] W (RetD W g' (.int .i64 v) r2)) :
    Calls Tryd.prog 44 #[.pointer (some ⟨g, 0, none⟩), .string ⟨s.toArray⟩, .func (.func 48) #[] #[]] w (RetD w g (.int .i64 v) ⟨r.l, r.bad || partB r2⟩) := by
  have HF := Lib.hid hf
  clear hf
  have B0 := bel_alloc (Below.refl w.heap.size w) (.cells #[.string ⟨s.toArray⟩, .bool false] 50)
  have hn0 : Rdd (w.alloc (.cells #[.string ⟨s.toArray⟩, .bool false] 50)) w.heap.size ⟨s, false⟩ := Blk.new w _ _
  have hgl := Blk.lt hR
  have hR0 := hR.below B0
  obtain ⟨l, b⟩ := r
  obtain ⟨l2, b2⟩ := r2
  have HV : Hid ((b || partB ⟨l2, b2⟩) = (b || (b2 || !l2.isEmpty))) := rfl
  simp only
  clear hR
  go_enter Tryd.func44, Tryd.ntmps44
  go_wp2_with fail
  (with_reducible refine (HF.out _ _ hn0).mono ?_)
  rintro e w1 ⟨rfl, hn1, hg1⟩
  have B1 := below_only B0 hg1 (Nat.le_refl _) B0.size
  have hR1 : Rdd w1 g ⟨l, b⟩ := Blk.grown hR0 hg1 (by intro e; injection e with e; omega)
  have c0 := Blk.cell hR1 0
  have c1 := Blk.cell hR1 1
  have n0 := Blk.cell hn1 0
  have n1 := Blk.cell hn1 1
  simp at c0 c1 n0 n1
  have hfz := Blk.frozen hR1
  clear hg1 hn0 hR0 B0 hn1
  cases b with
  | true =>
    rw [show (true || (b2 || !l2.isEmpty)) = true from rfl] at HV
    go_wp2_with fail
    go_ret
    rw [HV.out]
    exact ⟨rfl, by have := Blk.set_ hR1 1 (.bool true); simpa [Rdd] using this, only_setCell (only_of_below B1 _) (.inl rfl) _⟩
  | false =>
    cases b2 with
    | true =>
      rw [show (false || (true || !l2.isEmpty)) = true from rfl] at HV
      go_wp2_with fail
      go_ret
      rw [HV.out]
      exact ⟨rfl, by have := Blk.set_ hR1 1 (.bool true); simpa [Rdd] using this, only_setCell (only_of_below B1 _) (.inl rfl) _⟩
    | false =>
      by_cases hl2 : l2 = []
      · subst hl2
        go_wp2_with fail
        go_ret
        rw [HV.out]
        exact ⟨rfl, by have := Blk.set_ hR1 1 (.bool false); simpa [Rdd] using this, only_setCell (only_of_below B1 _) (.inl rfl) _⟩
      · have e1 : (l2 == []) = false := by simpa using hl2
        have e2 : l2.isEmpty = false := by cases l2 with | nil => exact absurd rfl hl2 | cons a t => rfl
        rw [e2] at HV
        go_wp2_with fail
        go_ret
        rw [HV.out]
        exact ⟨rfl, by have := Blk.set_ hR1 1 (.bool true); simpa [Rdd] using this, only_setCell (only_of_below B1 _) (.inl rfl) _⟩
set_option maxHeartbeats 4000000 in
theorem part_off (g : Nat) (r : RD) (s : List UInt8) (v : Int) (r2 : RD) (w : World) (hR : Rdd w g r) (hf : ∀ W g', Rdd W g' ⟨s, false⟩ → Calls Tryd.prog 50 #[.pointer (some ⟨g', 0, none⟩)] W (RetD W g' (.int .i64 v) r2)) :
    Calls Tryd.prog 44 #[.pointer (some ⟨g, 0, none⟩), .string ⟨s.toArray⟩, .func (.func 50) #[] #[]] w (RetD w g (.int .i64 v) ⟨r.l, r.bad || partB r2⟩) := by
  have HF := Lib.hid hf
  clear hf
  have B0 := bel_alloc (Below.refl w.heap.size w) (.cells #[.string ⟨s.toArray⟩, .bool false] 50)
  have hn0 : Rdd (w.alloc (.cells #[.string ⟨s.toArray⟩, .bool false] 50)) w.heap.size ⟨s, false⟩ := Blk.new w _ _
  have hgl := Blk.lt hR
  have hR0 := hR.below B0
  obtain ⟨l, b⟩ := r
  obtain ⟨l2, b2⟩ := r2
  have HV : Hid ((b || partB ⟨l2, b2⟩) = (b || (b2 || !l2.isEmpty))) := rfl
  simp only
  clear hR
  go_enter Tryd.func44, Tryd.ntmps44
  go_wp2_with fail
  (with_reducible refine (HF.out _ _ hn0).mono ?_)
  rintro e w1 ⟨rfl, hn1, hg1⟩
  have B1 := below_only B0 hg1 (Nat.le_refl _) B0.size
  have hR1 : Rdd w1 g ⟨l, b⟩ := Blk.grown hR0 hg1 (by intro e; injection e with e; omega)
  have c0 := Blk.cell hR1 0
  have c1 := Blk.cell hR1 1
  have n0 := Blk.cell hn1 0
  have n1 := Blk.cell hn1 1
  simp at c0 c1 n0 n1
  have hfz := Blk.frozen hR1
  clear hg1 hn0 hR0 B0 hn1
  cases b with
  | true =>
    rw [show (true || (b2 || !l2.isEmpty)) = true from rfl] at HV
    go_wp2_with fail
    go_ret
    rw [HV.out]
    exact ⟨rfl, by have := Blk.set_ hR1 1 (.bool true); simpa [Rdd] using this, only_setCell (only_of_below B1 _) (.inl rfl) _⟩
  | false =>
    cases b2 with
    | true =>
      rw [show (false || (true || !l2.isEmpty)) = true from rfl] at HV
      go_wp2_with fail
      go_ret
      rw [HV.out]
      exact ⟨rfl, by have := Blk.set_ hR1 1 (.bool true); simpa [Rdd] using this, only_setCell (only_of_below B1 _) (.inl rfl) _⟩
    | false =>
      by_cases hl2 : l2 = []
      · subst hl2
        go_wp2_with fail
        go_ret
        rw [HV.out]
        exact ⟨rfl, by have := Blk.set_ hR1 1 (.bool false); simpa [Rdd] using this, only_setCell (only_of_below B1 _) (.inl rfl) _⟩
      · have e1 : (l2 == []) = false := by simpa using hl2
        have e2 : l2.isEmpty = false := by cases l2 with | nil => exact absurd rfl hl2 | cons a t => rfl
        rw [e2] at HV
        go_wp2_with fail
        go_ret
        rw [HV.out]
        exact ⟨rfl, by have := Blk.set_ hR1 1 (.bool true); simpa [Rdd] using this, only_setCell (only_of_below B1 _) (.inl rfl) _⟩
set_option maxHeartbeats 4000000 in
theorem rd_mail1 (g : Nat) (r : RD) (w : World) (hR : Rdd w g r) (hl : r.l.length ≤ 9) :
    Calls Tryd.prog 45 #[.pointer (some ⟨g, 0, none⟩)] w (RetD w g (.int .i64 (rdDig r.l.length r).1) (rdDig r.l.length r).2) := by
  have H := Lib.hid (rd_digits g r.l.length r w hR (by omega) hl)
  obtain ⟨l, b⟩ := r
  simp only at H hl ⊢
  generalize rdDig l.length ⟨l, b⟩ = q at *
  have hg := Blk.lt hR
  have c0 := Blk.cell hR 0
  simp at c0
  clear hR
  go_enter Tryd.func45, Tryd.ntmps45
  go_wp2_with fail
  (with_reducible refine (H.out).mono ?_)
  rintro e w1 ⟨rfl, hR1, hg1⟩
  go_wp2_with fail
  go_ret
  exact ⟨rfl, hR1, hg1⟩
theorem rd_mail2 (g : Nat) (r : RD) (w : World) (hR : Rdd w g r) (hl : r.l.length ≤ 100000) :
    Calls Tryd.prog 50 #[.pointer (some ⟨g, 0, none⟩)] w (RetD w g (.int .i64 (rdOff false r).1) (rdOff false r).2) := by
  have H := Lib.hid (rd_offset g false r w hR hl)
  generalize rdOff false r = q at *
  go_enter Tryd.func50, Tryd.ntmps50
  go_wp2_with fail
  (with_reducible refine (H.out).mono ?_)
  rintro e w1 ⟨rfl, hR1, hg1⟩
  go_wp2_with fail
  go_ret
  exact ⟨rfl, hR1, hg1⟩
end Go.Proofs.YtobidipkgaaecaaDoor
