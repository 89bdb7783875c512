/-
  A reader of dates: offset, zone, told; Web.
-/
import Derived.Test.YtjmmgekildlckaaDtW
namespace Go.Proofs.Ytjmmgekildlckaa
open Go.RowKit Go.Nst
set_option maxRecDepth 100000
set_option linter.unusedVariables false
set_option linter.unusedSimpArgs false

theorem len_dig (w : Nat) (r : RD) : (rdDig w r).2.l.length ≤ r.l.length := by
  unfold rdDig
  split
  · exact Nat.le_refl _
  · split
    · simp
    · exact Nat.le_refl _
theorem len_sign (s : List UInt8) (r : RD) : (rdSign s r).2.l.length ≤ r.l.length := by
  obtain ⟨l, b⟩ := r
  cases l with
  | nil => exact Nat.le_refl _
  | cons c t =>
    unfold rdSign
    simp only
    split <;> simp
theorem len_point (r : RD) : (rdPoint r).l.length ≤ r.l.length := by
  unfold rdPoint
  split
  · rename_i h
    simp only [List.length_drop, List.length_tail]
    omega
  · exact Nat.le_refl _
theorem dig2_bd (r : RD) : 0 ≤ (rdDig 2 r).1 ∧ (rdDig 2 r).1 ≤ 99 := by
  unfold rdDig
  split
  · simp
  · split
    · rename_i h1 h2
      have := numL_in h2
      have hl : (r.l.take 2).length = 2 := by rw [List.length_take]; omega
      rw [hl] at this
      simp only
      omega
    · simp
theorem dig4_bd (r : RD) : 0 ≤ (rdDig 4 r).1 ∧ (rdDig 4 r).1 ≤ 9999 := by
  unfold rdDig
  split
  · simp
  · split
    · rename_i h1 h2
      have := numL_in h2
      have hl : (r.l.take 4).length = 4 := by rw [List.length_take]; omega
      rw [hl] at this
      simp only
      omega
    · simp
theorem rd_digits2 (g : Nat) (r : RD) (w : World) (hR : Rdd w g r) (hl : r.l.length ≤ 100000) :
    Calls Try.prog 47 #[.pointer (some ⟨g, 0, none⟩), .int .i64 2] w (RetD w g (.int .i64 (rdDig 2 r).1) (rdDig 2 r).2) := rd_digits g 2 r w hR hl (by omega)
theorem rd_digits4 (g : Nat) (r : RD) (w : World) (hR : Rdd w g r) (hl : r.l.length ≤ 100000) :
    Calls Try.prog 47 #[.pointer (some ⟨g, 0, none⟩), .int .i64 4] w (RetD w g (.int .i64 (rdDig 4 r).1) (rdDig 4 r).2) := rd_digits g 4 r w hR hl (by omega)
def offRest (c : Bool) (r : RD) : RD := rdColon c (rdDig 2 (rdSign [43, 45] r).2).2
set_option maxHeartbeats 4000000 in
theorem rd_offset (g : Nat) (colon : Bool) (r : RD) (w : World) (hR : Rdd w g r) (hl : r.l.length ≤ 100000) :
    Calls Try.prog 65 #[.pointer (some ⟨g, 0, none⟩), .bool colon] w (RetD w g (.int .i64 (rdOff colon r).1) (rdOff colon r).2) := by
  have H1 := Lib.hid (rd_sign g [43, 45] r w hR hl (by simp))
  have L1 := len_sign [43, 45] r
  have HV : Hid (rdOff colon r = (offN (rdSign [43, 45] r).1 (rdDig 2 (rdSign [43, 45] r).2).1 (rdDig 2 (rdColon colon (rdDig 2 (rdSign [43, 45] r).2).2)).1, ⟨(rdDig 2 (rdColon colon (rdDig 2 (rdSign [43, 45] r).2).2)).2.l, (rdDig 2 (rdColon colon (rdDig 2 (rdSign [43, 45] r).2).2)).2.bad || (decide (23 < (rdDig 2 (rdSign [43, 45] r).2).1) || decide (59 < (rdDig 2 (rdColon colon (rdDig 2 (rdSign [43, 45] r).2).2)).1))⟩)) := rfl
  generalize rdSign [43, 45] r = q1 at *
  obtain ⟨sg, r1⟩ := q1
  simp only at H1 L1 HV
  have H2 := Lib.hid (fun W h => rd_digits2 g r1 W h (by omega))
  have L2 := len_dig 2 r1
  have hd2 := dig2_bd r1
  generalize rdDig 2 r1 = q2 at *
  obtain ⟨hh, r2⟩ := q2
  simp only at H2 L2 HV hd2
  have H3 := Lib.hid (fun W h => rd_sign g [58] r2 W h (by omega) (by simp))
  have L3 := len_sign [58] r2
  cases colon with
  | true =>
    have e3 : rdColon true r2 = (rdSign [58] r2).2 := rfl
    rw [e3] at HV
    generalize rdSign [58] r2 = q3 at *
    obtain ⟨_, r3⟩ := q3
    simp only at H3 L3 HV
    have H4 := Lib.hid (fun W h => rd_digits2 g r3 W h (by omega))
    have hd4 := dig2_bd r3
    generalize rdDig 2 r3 = q4 at *
    obtain ⟨mm, r4⟩ := q4
    simp only at H4 HV hd4
    have w1_ : IntKind.i64.wrap (3600 * hh) = 3600 * hh := IntWalk.i64_in _ (by omega)
    have w2_ : IntKind.i64.wrap (60 * mm) = 60 * mm := IntWalk.i64_in _ (by omega)
    have w3_ : IntKind.i64.wrap (3600 * hh + 60 * mm) = 3600 * hh + 60 * mm := IntWalk.i64_in _ (by omega)
    have w4_ : IntKind.i64.wrap (-(3600 * hh + 60 * mm)) = -(3600 * hh + 60 * mm) := IntWalk.i64_in _ (by omega)
    go_enter Try.func65, Try.ntmps65
    go_wp2_with fail
    (with_reducible refine (H1.out).mono ?_)
    rintro e w1 ⟨rfl, hR1, hg1⟩
    go_wp2_with fail
    (with_reducible refine (H2.out _ hR1).mono ?_)
    rintro e w2 ⟨rfl, hR2, hg2⟩
    have G2 := only_trans hg1 hg2
    clear hR1 hg1 hg2
    go_wp2_with fail
    (with_reducible refine (H3.out _ hR2).mono ?_)
    rintro e w3 ⟨rfl, hR3, hg3⟩
    have G3 := only_trans G2 hg3
    clear hR2 hg3 G2
    go_wp2_with fail
    (with_reducible refine (H4.out _ hR3).mono ?_)
    rintro e w4 ⟨rfl, hR4, hg4⟩
    have G4 := only_trans G3 hg4
    clear hR3 hg4 G3
    obtain ⟨l4, b4⟩ := r4
    have f1 := Blk.cell hR4 1
    simp at f1
    have hfz := Blk.frozen hR4
    have FIN : Hid (∀ bb, Rdd (w4.setCell ⟨g, 1, none⟩ (.bool bb)) g ⟨l4, bb⟩ ∧ w.grownBy (w4.setCell ⟨g, 1, none⟩ (.bool bb)) (some g)) := Lib.hid (fun bb => ⟨by have := Blk.set_ hR4 1 (.bool bb); simpa [Rdd] using this, only_setCell G4 (.inl rfl) _⟩)
    clear hR4 G4
    simp only at HV
    by_cases sgn : sg = 45
    · have sg1 : (((sg.toNat : Nat) : Int) == 45) = true := by subst sgn; rfl
      have HO : Hid (offN sg hh mm = -(3600 * hh + 60 * mm)) := Lib.hid (by unfold offN; rw [if_pos sgn])
      clear sgn
      cases b4 with
      | true =>
        go_wp2_with fail
        go_ret
        rw [HV.out, HO.out]
        exact ⟨rfl, by simpa using (FIN.out true).1, (FIN.out true).2⟩
      | false =>
        by_cases t1 : 23 < hh
        · have d1 : decide (23 < hh) = true := by simpa using t1
          rw [d1] at HV
          go_wp2_with fail
          go_ret
          rw [HV.out, HO.out]
          exact ⟨rfl, by simpa using (FIN.out true).1, (FIN.out true).2⟩
        · have d1 : decide (23 < hh) = false := by simpa using t1
          by_cases t2 : 59 < mm
          · have d2 : decide (59 < mm) = true := by simpa using t2
            rw [d1, d2] at HV
            go_wp2_with fail
            go_ret
            rw [HV.out, HO.out]
            exact ⟨rfl, by simpa using (FIN.out true).1, (FIN.out true).2⟩
          · have d2 : decide (59 < mm) = false := by simpa using t2
            rw [d1, d2] at HV
            go_wp2_with fail
            go_ret
            rw [HV.out, HO.out]
            exact ⟨rfl, by simpa using (FIN.out false).1, (FIN.out false).2⟩
    · have sg1 : (((sg.toNat : Nat) : Int) == 45) = false := by
        rw [beq_eq_false_iff_ne]; intro e; apply sgn; apply UInt8.toNat_inj.1; have : sg.toNat = 45 := by omega
        rw [this]; rfl
      have HO : Hid (offN sg hh mm = 3600 * hh + 60 * mm) := Lib.hid (by unfold offN; rw [if_neg sgn])
      clear sgn
      cases b4 with
      | true =>
        go_wp2_with fail
        go_ret
        rw [HV.out, HO.out]
        exact ⟨rfl, by simpa using (FIN.out true).1, (FIN.out true).2⟩
      | false =>
        by_cases t1 : 23 < hh
        · have d1 : decide (23 < hh) = true := by simpa using t1
          rw [d1] at HV
          go_wp2_with fail
          go_ret
          rw [HV.out, HO.out]
          exact ⟨rfl, by simpa using (FIN.out true).1, (FIN.out true).2⟩
        · have d1 : decide (23 < hh) = false := by simpa using t1
          by_cases t2 : 59 < mm
          · have d2 : decide (59 < mm) = true := by simpa using t2
            rw [d1, d2] at HV
            go_wp2_with fail
            go_ret
            rw [HV.out, HO.out]
            exact ⟨rfl, by simpa using (FIN.out true).1, (FIN.out true).2⟩
          · have d2 : decide (59 < mm) = false := by simpa using t2
            rw [d1, d2] at HV
            go_wp2_with fail
            go_ret
            rw [HV.out, HO.out]
            exact ⟨rfl, by simpa using (FIN.out false).1, (FIN.out false).2⟩
  | false =>
    have e3 : rdColon false r2 = r2 := rfl
    rw [e3] at HV
    have H4 := Lib.hid (fun W h => rd_digits2 g r2 W h (by omega))
    have hd4 := dig2_bd r2
    clear H3 L3
    generalize rdDig 2 r2 = q4 at *
    obtain ⟨mm, r4⟩ := q4
    simp only at H4 HV hd4
    have w1_ : IntKind.i64.wrap (3600 * hh) = 3600 * hh := IntWalk.i64_in _ (by omega)
    have w2_ : IntKind.i64.wrap (60 * mm) = 60 * mm := IntWalk.i64_in _ (by omega)
    have w3_ : IntKind.i64.wrap (3600 * hh + 60 * mm) = 3600 * hh + 60 * mm := IntWalk.i64_in _ (by omega)
    have w4_ : IntKind.i64.wrap (-(3600 * hh + 60 * mm)) = -(3600 * hh + 60 * mm) := IntWalk.i64_in _ (by omega)
    go_enter Try.func65, Try.ntmps65
    go_wp2_with fail
    (with_reducible refine (H1.out).mono ?_)
    rintro e w1 ⟨rfl, hR1, hg1⟩
    go_wp2_with fail
    (with_reducible refine (H2.out _ hR1).mono ?_)
    rintro e w2 ⟨rfl, hR2, hg2⟩
    have G2 := only_trans hg1 hg2
    clear hR1 hg1 hg2
    have hR3 := hR2
    have G3 := G2
    go_wp2_with fail
    (with_reducible refine (H4.out _ hR3).mono ?_)
    rintro e w4 ⟨rfl, hR4, hg4⟩
    have G4 := only_trans G3 hg4
    clear hR3 hg4 G3
    obtain ⟨l4, b4⟩ := r4
    have f1 := Blk.cell hR4 1
    simp at f1
    have hfz := Blk.frozen hR4
    have FIN : Hid (∀ bb, Rdd (w4.setCell ⟨g, 1, none⟩ (.bool bb)) g ⟨l4, bb⟩ ∧ w.grownBy (w4.setCell ⟨g, 1, none⟩ (.bool bb)) (some g)) := Lib.hid (fun bb => ⟨by have := Blk.set_ hR4 1 (.bool bb); simpa [Rdd] using this, only_setCell G4 (.inl rfl) _⟩)
    clear hR4 G4
    simp only at HV
    by_cases sgn : sg = 45
    · have sg1 : (((sg.toNat : Nat) : Int) == 45) = true := by subst sgn; rfl
      have HO : Hid (offN sg hh mm = -(3600 * hh + 60 * mm)) := Lib.hid (by unfold offN; rw [if_pos sgn])
      clear sgn
      cases b4 with
      | true =>
        go_wp2_with fail
        go_ret
        rw [HV.out, HO.out]
        exact ⟨rfl, by simpa using (FIN.out true).1, (FIN.out true).2⟩
      | false =>
        by_cases t1 : 23 < hh
        · have d1 : decide (23 < hh) = true := by simpa using t1
          rw [d1] at HV
          go_wp2_with fail
          go_ret
          rw [HV.out, HO.out]
          exact ⟨rfl, by simpa using (FIN.out true).1, (FIN.out true).2⟩
        · have d1 : decide (23 < hh) = false := by simpa using t1
          by_cases t2 : 59 < mm
          · have d2 : decide (59 < mm) = true := by simpa using t2
            rw [d1, d2] at HV
            go_wp2_with fail
            go_ret
            rw [HV.out, HO.out]
            exact ⟨rfl, by simpa using (FIN.out true).1, (FIN.out true).2⟩
          · have d2 : decide (59 < mm) = false := by simpa using t2
            rw [d1, d2] at HV
            go_wp2_with fail
            go_ret
            rw [HV.out, HO.out]
            exact ⟨rfl, by simpa using (FIN.out false).1, (FIN.out false).2⟩
    · have sg1 : (((sg.toNat : Nat) : Int) == 45) = false := by
        rw [beq_eq_false_iff_ne]; intro e; apply sgn; apply UInt8.toNat_inj.1; have : sg.toNat = 45 := by omega
        rw [this]; rfl
      have HO : Hid (offN sg hh mm = 3600 * hh + 60 * mm) := Lib.hid (by unfold offN; rw [if_neg sgn])
      clear sgn
      cases b4 with
      | true =>
        go_wp2_with fail
        go_ret
        rw [HV.out, HO.out]
        exact ⟨rfl, by simpa using (FIN.out true).1, (FIN.out true).2⟩
      | false =>
        by_cases t1 : 23 < hh
        · have d1 : decide (23 < hh) = true := by simpa using t1
          rw [d1] at HV
          go_wp2_with fail
          go_ret
          rw [HV.out, HO.out]
          exact ⟨rfl, by simpa using (FIN.out true).1, (FIN.out true).2⟩
        · have d1 : decide (23 < hh) = false := by simpa using t1
          by_cases t2 : 59 < mm
          · have d2 : decide (59 < mm) = true := by simpa using t2
            rw [d1, d2] at HV
            go_wp2_with fail
            go_ret
            rw [HV.out, HO.out]
            exact ⟨rfl, by simpa using (FIN.out true).1, (FIN.out true).2⟩
          · have d2 : decide (59 < mm) = false := by simpa using t2
            rw [d1, d2] at HV
            go_wp2_with fail
            go_ret
            rw [HV.out, HO.out]
            exact ⟨rfl, by simpa using (FIN.out false).1, (FIN.out false).2⟩
end Go.Proofs.Ytjmmgekildlckaa
