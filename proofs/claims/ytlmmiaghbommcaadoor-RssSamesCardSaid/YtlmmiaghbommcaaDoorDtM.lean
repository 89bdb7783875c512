/-
  Dates of the mail: month, weekday, named, year, clock, part (printed by gen_dtm.py).
  Dates of the mail: year, clock, part (printed by gen_dtn.py).
  A text cut at each of a byte, as strings.Split has it, is the document's.
-/
import Derived.Test.YtlmmiaghbommcaaDoorDtZ
import Derived.Lib.IndexMore
section
namespace Go.Proofs.YtlmmiaghbommcaaDoor
open Go.RowKit Go.Nst
set_option maxRecDepth 100000
set_option linter.unusedVariables false
set_option linter.unusedSimpArgs false

def monN : List UInt8 := [74, 97, 110, 70, 101, 98, 77, 97, 114, 65, 112, 114, 77, 97, 121, 74, 117, 110, 74, 117, 108, 65, 117, 103, 83, 101, 112, 79, 99, 116, 78, 111, 118, 68, 101, 99]
theorem indexL_not : ∀ {l : List (List UInt8)} {s : List UInt8}, s ∉ l → indexL l s = -1
  | [], _, _ => rfl
  | x :: l, s, h => by
    have h1 : ¬ x = s := fun e => h (by simp [e])
    have h2 : s ∉ l := fun e => h (by simp [e])
    unfold indexL
    rw [if_neg h1, indexL_not h2]
    rfl
theorem names3 : ∀ s ∈ namesM, s.length = 3 := by decide
theorem mon_cut : ∀ k : Fin 12, (monN.drop (3 * k.1)).take 3 ∈ namesM := by decide
theorem mon_at : ∀ s ∈ namesM, (0 ≤ Lib.index monN s ∧ Lib.index monN s % 3 = 0 ∧ Lib.index monN s / 3 = indexL namesM s) := by decide +kernel
theorem mon_not {s : List UInt8} (h3 : s.length = 3) (h : s ∉ namesM) : Lib.index monN s < 0 ∨ Lib.index monN s % 3 ≠ 0 := by
  rcases Lib.index_spec monN s with ⟨h1, _⟩ | ⟨i, h1, h2, h4, _⟩
  · left; omega
  · right
    intro hm
    rw [h1] at hm
    have hr := Lib.index_room monN s (by omega)
    rw [h1, h3, show monN.length = 36 from rfl] at hr
    have hi : i = 3 * (i / 3) := by omega
    have hk := mon_cut ⟨i / 3, by omega⟩
    simp only at hk
    rw [← hi] at hk
    have hp := List.isPrefixOf_iff_prefix.1 h4
    have := List.prefix_iff_eq_take.1 hp
    rw [h3] at this
    rw [← this] at hk
    exact h hk
theorem index_big (s : List UInt8) : Lib.index monN s ≤ 36 := by
  rcases Lib.index_spec monN s with ⟨h1, _⟩ | ⟨i, h1, h2, _⟩
  · omega
  · have : monN.length = 36 := rfl
    omega
set_option maxHeartbeats 4000000 in
theorem month_any (l : List UInt8) (m : Int) (w : World) (hl : l.length ≤ 100000) (hm : w.cell? ⟨0, 0, none⟩ = some (.int .i64 m)) : Calls Tryd.prog 62 #[.string ⟨l.toArray⟩] w fun e w' => e = .returned (.int .i64 (indexL namesM l + 1)) ∧ w = w' := by
  have HI : Hid (Calls Tryd.prog 77 #[.string ⟨#[74, 97, 110, 70, 101, 98, 77, 97, 114, 65, 112, 114, 77, 97, 121, 74, 117, 110, 74, 117, 108, 65, 117, 103, 83, 101, 112, 79, 99, 116, 78, 111, 118, 68, 101, 99]⟩, .string ⟨l.toArray⟩] w fun e w' => e = .returned (.int .i64 (Lib.index monN l)) ∧ w' = w) := Lib.hid (Tryd.strings_Index ⟨#[74, 97, 110, 70, 101, 98, 77, 97, 114, 65, 112, 114, 77, 97, 121, 74, 117, 110, 74, 117, 108, 65, 117, 103, 83, 101, 112, 79, 99, 116, 78, 111, 118, 68, 101, 99]⟩ ⟨l.toArray⟩ m w (by decide) hm)
  have hb := index_big l
  by_cases h3 : l.length = 3
  · have d1 : decide ((l.length : Int) = 3) = true := by simp; omega
    have d2 : ((l.length : Int) != 3) = false := by simp; omega
    by_cases hin : l ∈ namesM
    · obtain ⟨g1, g2, g3⟩ := mon_at l hin
      rw [← g3]
      generalize Lib.index monN l = i at *
      have t1 : decide (i < 0) = false := by simp; omega
      have t2 : i.tmod 3 = 0 := by rw [Int.tmod_eq_emod_of_nonneg g1]; exact g2
      have t3 : IntKind.i64.wrap (i / 3) = i / 3 := IntWalk.i64_in _ (by omega)
      have t3b : IntKind.i64.wrap (i.tdiv 3) = i / 3 := by rw [Int.tdiv_eq_ediv_of_nonneg g1]; exact t3
      have t4 : IntKind.i64.wrap (i / 3 + 1) = i / 3 + 1 := IntWalk.i64_in _ (by omega)
      clear hin g2 g3
      go_enter Tryd.func62, Tryd.ntmps62
      go_wp2_with fail
      (with_reducible refine (HI.out).mono ?_)
      rintro e w1 ⟨rfl, rfl⟩
      go_wp2_with fail
      go_ret
      exact ⟨rfl, rfl⟩
    · have hz := mon_not h3 hin
      rw [indexL_not hin]
      clear hin
      generalize Lib.index monN l = i at *
      by_cases hi : i < 0
      · have t1 : decide (i < 0) = true := by simpa using hi
        go_enter Tryd.func62, Tryd.ntmps62
        go_wp2_with fail
        (with_reducible refine (HI.out).mono ?_)
        rintro e w1 ⟨rfl, rfl⟩
        go_wp2_with fail
        go_ret
        exact ⟨rfl, rfl⟩
      · have t1 : decide (i < 0) = false := by simpa using hi
        have t2 : i.tmod 3 = i % 3 := Int.tmod_eq_emod_of_nonneg (by omega)
        have t5 : decide (i % 3 = 0) = false := by simp; omega
        have t6 : (i % 3 != 0) = true := by simp; omega
        clear hz
        go_enter Tryd.func62, Tryd.ntmps62
        go_wp2_with fail
        (with_reducible refine (HI.out).mono ?_)
        rintro e w1 ⟨rfl, rfl⟩
        go_wp2_with fail
        go_ret
        exact ⟨rfl, rfl⟩
  · have d1 : decide ((l.length : Int) = 3) = false := by simp; omega
    have d2 : ((l.length : Int) != 3) = true := by simp; omega
    rw [indexL_not (fun h => h3 (names3 l h))]
    generalize Lib.index monN l = i at *
    go_enter Tryd.func62, Tryd.ntmps62
    go_wp2_with fail
    (with_reducible refine (HI.out).mono ?_)
    rintro e w1 ⟨rfl, rfl⟩
    go_wp2_with fail
    go_ret
    exact ⟨rfl, rfl⟩
set_option maxHeartbeats 4000000 in
theorem weekday_any (l : List UInt8) (w : World) : Calls Tryd.prog 58 #[.string ⟨l.toArray⟩] w fun e w' => e = .returned (.bool (decide (0 ≤ indexL namesW l))) ∧ w = w' := by
  by_cases h0 : l = [77, 111, 110, 44]
  · subst h0
    go_enter Tryd.func58, Tryd.ntmps58
    go_wp2_with fail
    go_ret
    exact ⟨rfl, rfl⟩
  have e0 : (l == [77, 111, 110, 44]) = false := by simpa using h0
  by_cases h1 : l = [84, 117, 101, 44]
  · subst h1
    go_enter Tryd.func58, Tryd.ntmps58
    go_wp2_with fail
    go_ret
    exact ⟨rfl, rfl⟩
  have e1 : (l == [84, 117, 101, 44]) = false := by simpa using h1
  by_cases h2 : l = [87, 101, 100, 44]
  · subst h2
    go_enter Tryd.func58, Tryd.ntmps58
    go_wp2_with fail
    go_ret
    exact ⟨rfl, rfl⟩
  have e2 : (l == [87, 101, 100, 44]) = false := by simpa using h2
  by_cases h3 : l = [84, 104, 117, 44]
  · subst h3
    go_enter Tryd.func58, Tryd.ntmps58
    go_wp2_with fail
    go_ret
    exact ⟨rfl, rfl⟩
  have e3 : (l == [84, 104, 117, 44]) = false := by simpa using h3
  by_cases h4 : l = [70, 114, 105, 44]
  · subst h4
    go_enter Tryd.func58, Tryd.ntmps58
    go_wp2_with fail
    go_ret
    exact ⟨rfl, rfl⟩
  have e4 : (l == [70, 114, 105, 44]) = false := by simpa using h4
  by_cases h5 : l = [83, 97, 116, 44]
  · subst h5
    go_enter Tryd.func58, Tryd.ntmps58
    go_wp2_with fail
    go_ret
    exact ⟨rfl, rfl⟩
  have e5 : (l == [83, 97, 116, 44]) = false := by simpa using h5
  by_cases h6 : l = [83, 117, 110, 44]
  · subst h6
    go_enter Tryd.func58, Tryd.ntmps58
    go_wp2_with fail
    go_ret
    exact ⟨rfl, rfl⟩
  have e6 : (l == [83, 117, 110, 44]) = false := by simpa using h6
  have HV : Hid (indexL namesW l = -1) := Lib.hid (indexL_not (by simp [namesW, h0, h1, h2, h3, h4, h5, h6]))
  go_enter Tryd.func58, Tryd.ntmps58
  go_wp2_with fail
  go_ret
  rw [HV.out]
  exact ⟨rfl, rfl⟩
def znV (o : Option Int) : Value := .tuple #[.int .i64 (o.getD 0), .bool o.isSome]
set_option maxHeartbeats 4000000 in
theorem named_any (l : List UInt8) (w : World) : Calls Tryd.prog 65 #[.string ⟨l.toArray⟩] w fun e w' => e = .returned (znV (zoneN l)) ∧ w = w' := by
  by_cases h0 : l = [71, 77, 84]
  · subst h0
    go_enter Tryd.func65, Tryd.ntmps65
    go_wp2_with fail
    go_ret2
    exact ⟨rfl, rfl⟩
  have e0 : (l == [71, 77, 84]) = false := by simpa using h0
  by_cases h1 : l = [85, 84]
  · subst h1
    go_enter Tryd.func65, Tryd.ntmps65
    go_wp2_with fail
    go_ret2
    exact ⟨rfl, rfl⟩
  have e1 : (l == [85, 84]) = false := by simpa using h1
  by_cases h2 : l = [85, 84, 67]
  · subst h2
    go_enter Tryd.func65, Tryd.ntmps65
    go_wp2_with fail
    go_ret2
    exact ⟨rfl, rfl⟩
  have e2 : (l == [85, 84, 67]) = false := by simpa using h2
  by_cases h3 : l = [90]
  · subst h3
    go_enter Tryd.func65, Tryd.ntmps65
    go_wp2_with fail
    go_ret2
    exact ⟨rfl, rfl⟩
  have e3 : (l == [90]) = false := by simpa using h3
  by_cases h4 : l = [69, 68, 84]
  · subst h4
    go_enter Tryd.func65, Tryd.ntmps65
    go_wp2_with fail
    go_ret2
    exact ⟨rfl, rfl⟩
  have e4 : (l == [69, 68, 84]) = false := by simpa using h4
  by_cases h5 : l = [69, 83, 84]
  · subst h5
    go_enter Tryd.func65, Tryd.ntmps65
    go_wp2_with fail
    go_ret2
    exact ⟨rfl, rfl⟩
  have e5 : (l == [69, 83, 84]) = false := by simpa using h5
  by_cases h6 : l = [67, 68, 84]
  · subst h6
    go_enter Tryd.func65, Tryd.ntmps65
    go_wp2_with fail
    go_ret2
    exact ⟨rfl, rfl⟩
  have e6 : (l == [67, 68, 84]) = false := by simpa using h6
  by_cases h7 : l = [67, 83, 84]
  · subst h7
    go_enter Tryd.func65, Tryd.ntmps65
    go_wp2_with fail
    go_ret2
    exact ⟨rfl, rfl⟩
  have e7 : (l == [67, 83, 84]) = false := by simpa using h7
  by_cases h8 : l = [77, 68, 84]
  · subst h8
    go_enter Tryd.func65, Tryd.ntmps65
    go_wp2_with fail
    go_ret2
    exact ⟨rfl, rfl⟩
  have e8 : (l == [77, 68, 84]) = false := by simpa using h8
  by_cases h9 : l = [77, 83, 84]
  · subst h9
    go_enter Tryd.func65, Tryd.ntmps65
    go_wp2_with fail
    go_ret2
    exact ⟨rfl, rfl⟩
  have e9 : (l == [77, 83, 84]) = false := by simpa using h9
  by_cases h10 : l = [80, 68, 84]
  · subst h10
    go_enter Tryd.func65, Tryd.ntmps65
    go_wp2_with fail
    go_ret2
    exact ⟨rfl, rfl⟩
  have e10 : (l == [80, 68, 84]) = false := by simpa using h10
  by_cases h11 : l = [80, 83, 84]
  · subst h11
    go_enter Tryd.func65, Tryd.ntmps65
    go_wp2_with fail
    go_ret2
    exact ⟨rfl, rfl⟩
  have e11 : (l == [80, 83, 84]) = false := by simpa using h11
  have HV : Hid (zoneN l = none) := Lib.hid (by unfold zoneN; simp [h0, h1, h2, h3, h4, h5, h6, h7, h8, h9, h10, h11])
  go_enter Tryd.func65, Tryd.ntmps65
  go_wp2_with fail
  go_ret2
  rw [HV.out]
  exact ⟨rfl, rfl⟩
end Go.Proofs.YtlmmiaghbommcaaDoor
end
section
namespace Go.Proofs.YtlmmiaghbommcaaDoor
open Go.RowKit Go.Nst
set_option maxRecDepth 100000
set_option linter.unusedVariables false
set_option linter.unusedSimpArgs false

set_option maxHeartbeats 4000000 in
theorem rd_year (g : Nat) (r : RD) (w : World) (hR : Rdd w g r) (hl : r.l.length ≤ 100000) :
    Calls Tryd.prog 63 #[.pointer (some ⟨g, 0, none⟩)] w (RetD w g (.int .i64 (rdYear r).1) (rdYear r).2) := by
  have H2 := Lib.hid (rd_digits2 g r w hR hl)
  have H4 := Lib.hid (rd_digits4 g r w hR hl)
  have b2 := dig2_bd r
  have HV : Hid (rdYear r = if r.l.length ≠ 2 then rdDig 4 r else (if 50 ≤ (rdDig 2 r).1 then 1900 + (rdDig 2 r).1 else 2000 + (rdDig 2 r).1, (rdDig 2 r).2)) := rfl
  generalize rdDig 2 r = q2 at *
  generalize rdDig 4 r = q4 at *
  obtain ⟨v2, r2⟩ := q2
  obtain ⟨v4, r4⟩ := q4
  obtain ⟨l, b⟩ := r
  simp only at hl b2 H2 H4 HV
  have hg := Blk.lt hR
  have c0 := Blk.cell hR 0
  simp at c0
  clear hR
  by_cases h2 : l.length = 2
  · have d1 : ((l.length : Int) != 2) = false := by simp; omega
    have d2 : decide ((l.length : Int) = 2) = true := by simp; omega
    have HW := HV.out
    rw [if_neg (by simpa using h2)] at HW
    by_cases h50 : 50 ≤ v2
    · rw [if_pos h50] at HW
      have HW := Lib.hid HW
      have d3 : decide (50 ≤ v2) = true := by simpa using h50
      have k1 : IntKind.i64.wrap (1900 + v2) = 1900 + v2 := IntWalk.i64_in _ (by omega)
      clear HV
      go_enter Tryd.func63, Tryd.ntmps63
      go_wp2_with fail
      (with_reducible refine (H2.out).mono ?_)
      rintro e w1 ⟨rfl, hR1, hg1⟩
      go_wp2_with fail
      go_ret
      rw [HW.out]
      exact ⟨rfl, hR1, hg1⟩
    · rw [if_neg h50] at HW
      have HW := Lib.hid HW
      have d3 : decide (50 ≤ v2) = false := by simpa using h50
      have k1 : IntKind.i64.wrap (2000 + v2) = 2000 + v2 := IntWalk.i64_in _ (by omega)
      clear HV
      go_enter Tryd.func63, Tryd.ntmps63
      go_wp2_with fail
      (with_reducible refine (H2.out).mono ?_)
      rintro e w1 ⟨rfl, hR1, hg1⟩
      go_wp2_with fail
      go_ret
      rw [HW.out]
      exact ⟨rfl, hR1, hg1⟩
  · have d1 : ((l.length : Int) != 2) = true := by simp; omega
    have d2 : decide ((l.length : Int) = 2) = false := by simp; omega
    have HW := HV.out
    rw [if_pos (by simpa using h2)] at HW
    have HW := Lib.hid HW
    clear HV
    go_enter Tryd.func63, Tryd.ntmps63
    go_wp2_with fail
    (with_reducible refine (H4.out).mono ?_)
    rintro e w1 ⟨rfl, hR1, hg1⟩
    go_wp2_with fail
    go_ret
    rw [HW.out]
    exact ⟨rfl, hR1, hg1⟩
set_option maxHeartbeats 8000000 in
theorem rd_clock (g : Nat) (r : RD) (w : World) (hR : Rdd w g r) (hl : r.l.length ≤ 100000) :
    Calls Tryd.prog 64 #[.pointer (some ⟨g, 0, none⟩)] w (RetD w g (.int .i64 (rdClock r).1) (rdClock r).2) := by
  have HV : Hid (rdClock r = (3600 * (clk1 r).1 + 60 * (clk2 r).1 + (clk3 r).1, ⟨(clk3 r).2.l, (clk3 r).2.bad || (decide (23 < (clk1 r).1) || decide (59 < (clk2 r).1) || decide (59 < (clk3 r).1))⟩)) := rfl
  have H1 := Lib.hid (rd_digits2 g r w hR hl)
  have m1 := len_dig 2 r
  have b1 := dig2_bd r
  have E1 : clk1 r = rdDig 2 r := rfl
  have E2 : clk2 r = rdDig 2 (rdSign [58] (clk1 r).2).2 := rfl
  have E3 : clk3 r = if (clk2 r).2.l = [] then (0, (clk2 r).2) else rdDig 2 (rdSign [58] (clk2 r).2).2 := rfl
  rw [E1] at E2 HV
  generalize clk3 r = q3 at *
  generalize clk2 r = q2 at *
  clear E1
  generalize rdDig 2 r = q1 at *
  obtain ⟨v1, r1⟩ := q1
  simp only at H1 m1 b1 E2 HV
  have K2 := Lib.hid (fun W k => rd_sign g [58] r1 W k (by omega) (by simp))
  have n2 := len_sign [58] r1
  generalize rdSign [58] r1 = p2 at *
  obtain ⟨_, s2⟩ := p2
  simp only at K2 n2 E2
  have H2 := Lib.hid (fun W k => rd_digits2 g s2 W k (by omega))
  have m2 := len_dig 2 s2
  have b2 := dig2_bd s2
  rw [← E2] at H2 m2 b2
  clear E2
  obtain ⟨v2, r2⟩ := q2
  simp only at H2 m2 b2 E3 HV
  clear hR
  have k1 : IntKind.i64.wrap (3600 * v1) = 3600 * v1 := IntWalk.i64_in _ (by omega)
  have k2 : IntKind.i64.wrap (60 * v2) = 60 * v2 := IntWalk.i64_in _ (by omega)
  have k3 : IntKind.i64.wrap (3600 * v1 + 60 * v2) = 3600 * v1 + 60 * v2 := IntWalk.i64_in _ (by omega)
  by_cases hn : r2.l = []
  · rw [if_pos hn] at E3
    subst E3
    obtain ⟨v3, hv3⟩ : ∃ v3 : Int, v3 = 0 := ⟨_, rfl⟩
    rw [Int.add_zero] at HV
    simp only at HV
    have k4 : IntKind.i64.wrap (3600 * v1 + 60 * v2 + 0) = 3600 * v1 + 60 * v2 + 0 := IntWalk.i64_in _ (by omega)
    have k5 : IntKind.i64.wrap (3600 * v1 + 60 * v2) = 3600 * v1 + 60 * v2 := k3
    obtain ⟨l2, b4⟩ := r2
    simp only at hn
    subst hn
    clear m1 m2 n2
    go_enter Tryd.func64, Tryd.ntmps64
    go_wp2_with fail
    (with_reducible refine (H1.out).mono ?_)
    rintro e w1 ⟨rfl, hR1, hg1⟩
    go_wp2_with fail
    (with_reducible refine (K2.out _ hR1).mono ?_)
    rintro e w2 ⟨rfl, hR2, hg2⟩
    have G2 := only_trans hg1 hg2
    clear hR1 hg1 hg2
    go_wp2_with fail
    (with_reducible refine (H2.out _ hR2).mono ?_)
    rintro e w3 ⟨rfl, hR4, hg3⟩
    have G4 := only_trans G2 hg3
    have c0 := Blk.cell hR4 0
    simp at c0
    clear hR2 hg3 G2 H1 K2 H2
    have hgl := Blk.lt hR4
    have f1 := Blk.cell hR4 1
    simp at f1
    have hfz := Blk.frozen hR4
    have FIN : Hid (∀ bb, Rdd (w3.setCell ⟨g, 1, none⟩ (.bool bb)) g ⟨[], bb⟩ ∧ w.grownBy (w3.setCell ⟨g, 1, none⟩ (.bool bb)) (some g)) := Lib.hid (fun bb => ⟨by have := Blk.set_ hR4 1 (.bool bb); simpa [Rdd] using this, only_setCell G4 (.inl rfl) _⟩)
    clear hR4 G4
    cases b4 with
    | true =>
      go_wp2_with fail
      go_ret
      rw [HV.out]
      exact ⟨rfl, by simpa using (FIN.out true).1, (FIN.out true).2⟩
    | false =>
      by_cases t0 : 23 < v1
      · have d0 : decide (23 < v1) = true := by simpa using t0
        rw [d0] at HV
        go_wp2_with fail
        go_ret
        rw [HV.out]
        exact ⟨rfl, by simpa using (FIN.out true).1, (FIN.out true).2⟩
      have d0 : decide (23 < v1) = false := by simpa using t0
      by_cases t1 : 59 < v2
      · have d1 : decide (59 < v2) = true := by simpa using t1
        rw [d0, d1] at HV
        go_wp2_with fail
        go_ret
        rw [HV.out]
        exact ⟨rfl, by simpa using (FIN.out true).1, (FIN.out true).2⟩
      have d1 : decide (59 < v2) = false := by simpa using t1
      rw [d0, d1, show decide ((59 : Int) < 0) = false from rfl] at HV
      go_wp2_with fail
      go_ret
      rw [HV.out]
      exact ⟨rfl, by simpa using (FIN.out false).1, (FIN.out false).2⟩
  · rw [if_neg hn] at E3
    have K3 := Lib.hid (fun W k => rd_sign g [58] r2 W k (by omega) (by simp))
    have n3 := len_sign [58] r2
    generalize rdSign [58] r2 = p3 at *
    obtain ⟨_, s3⟩ := p3
    simp only at K3 n3 E3
    have H3 := Lib.hid (fun W k => rd_digits2 g s3 W k (by omega))
    have b3 := dig2_bd s3
    rw [← E3] at H3 b3
    clear E3
    obtain ⟨v3, r3⟩ := q3
    simp only at H3 b3 HV
    have k4 : IntKind.i64.wrap (3600 * v1 + 60 * v2 + v3) = 3600 * v1 + 60 * v2 + v3 := IntWalk.i64_in _ (by omega)
    obtain ⟨l2, bb2⟩ := r2
    simp only at hn
    have e1 : (l2 == []) = false := by simpa using hn
    have e2 : l2.isEmpty = false := by cases l2 with | nil => exact absurd rfl hn | cons a t => rfl
    clear m1 m2 n2 n3
    go_enter Tryd.func64, Tryd.ntmps64
    go_wp2_with fail
    (with_reducible refine (H1.out).mono ?_)
    rintro e w1 ⟨rfl, hR1, hg1⟩
    go_wp2_with fail
    (with_reducible refine (K2.out _ hR1).mono ?_)
    rintro e w2 ⟨rfl, hR2, hg2⟩
    have G2 := only_trans hg1 hg2
    clear hR1 hg1 hg2
    go_wp2_with fail
    (with_reducible refine (H2.out _ hR2).mono ?_)
    rintro e w3 ⟨rfl, hR3, hg3⟩
    have G3 := only_trans G2 hg3
    have c0 := Blk.cell hR3 0
    simp at c0
    have hgl := Blk.lt hR3
    clear hR2 hg3 G2 H1 K2 H2
    go_wp2_with fail
    (with_reducible refine (K3.out _ hR3).mono ?_)
    rintro e w5 ⟨rfl, hR5, hg5⟩
    have G5 := only_trans G3 hg5
    clear hR3 hg5 G3 c0 hgl
    go_wp2_with fail
    (with_reducible refine (H3.out _ hR5).mono ?_)
    rintro e w6 ⟨rfl, hR4, hg6⟩
    have G4 := only_trans G5 hg6
    have hgl := Blk.lt hR4
    clear hR5 hg6 G5 K3 H3
    obtain ⟨l4, b4⟩ := r3
    have f1 := Blk.cell hR4 1
    simp at f1
    have hfz := Blk.frozen hR4
    have FIN : Hid (∀ bb, Rdd (w6.setCell ⟨g, 1, none⟩ (.bool bb)) g ⟨l4, bb⟩ ∧ w.grownBy (w6.setCell ⟨g, 1, none⟩ (.bool bb)) (some g)) := Lib.hid (fun bb => ⟨by have := Blk.set_ hR4 1 (.bool bb); simpa [Rdd] using this, only_setCell G4 (.inl rfl) _⟩)
    clear hR4 G4
    simp only at HV
    cases b4 with
    | true =>
      go_wp2_with fail
      go_ret
      rw [HV.out]
      exact ⟨rfl, by simpa using (FIN.out true).1, (FIN.out true).2⟩
    | false =>
      by_cases t0 : 23 < v1
      · have d0 : decide (23 < v1) = true := by simpa using t0
        rw [d0] at HV
        go_wp2_with fail
        go_ret
        rw [HV.out]
        exact ⟨rfl, by simpa using (FIN.out true).1, (FIN.out true).2⟩
      have d0 : decide (23 < v1) = false := by simpa using t0
      by_cases t1 : 59 < v2
      · have d1 : decide (59 < v2) = true := by simpa using t1
        rw [d0, d1] at HV
        go_wp2_with fail
        go_ret
        rw [HV.out]
        exact ⟨rfl, by simpa using (FIN.out true).1, (FIN.out true).2⟩
      have d1 : decide (59 < v2) = false := by simpa using t1
      by_cases t2 : 59 < v3
      · have d2 : decide (59 < v3) = true := by simpa using t2
        rw [d0, d1, d2] at HV
        go_wp2_with fail
        go_ret
        rw [HV.out]
        exact ⟨rfl, by simpa using (FIN.out true).1, (FIN.out true).2⟩
      have d2 : decide (59 < v3) = false := by simpa using t2
      rw [d0, d1, d2] at HV
      go_wp2_with fail
      go_ret
      rw [HV.out]
      exact ⟨rfl, by simpa using (FIN.out false).1, (FIN.out false).2⟩
set_option maxHeartbeats 4000000 in
theorem part_day (g : Nat) (r : RD) (s : List UInt8) (v : Int) (r2 : RD) (w : World) (hR : Rdd w g r) (hf : ∀ W g', Rdd W g' ⟨s, false⟩ → Calls Tryd.prog 61 #[.pointer (some ⟨g', 0, none⟩)] W (RetD W g' (.int .i64 v) r2)) :
    Calls Tryd.prog 60 #[.pointer (some ⟨g, 0, none⟩), .string ⟨s.toArray⟩, .func (.func 61) #[] #[]] w (RetD w g (.int .i64 v) ⟨r.l, r.bad || partB r2⟩) := by
  have HF := Lib.hid hf
  clear hf
  have B0 := bel_alloc (Below.refl w.heap.size w) (.cells #[.string ⟨s.toArray⟩, .bool false] 97)
  have hn0 : Rdd (w.alloc (.cells #[.string ⟨s.toArray⟩, .bool false] 97)) w.heap.size ⟨s, false⟩ := Blk.new w _ _
  have hgl := Blk.lt hR
  have hR0 := hR.below B0
  obtain ⟨l, b⟩ := r
  obtain ⟨l2, b2⟩ := r2
  have HV : Hid ((b || partB ⟨l2, b2⟩) = (b || (b2 || !l2.isEmpty))) := rfl
  simp only
  clear hR
  go_enter Tryd.func60, Tryd.ntmps60
  go_wp2_with fail
  (with_reducible refine (HF.out _ _ hn0).mono ?_)
  rintro e w1 ⟨rfl, hn1, hg1⟩
  have B1 := below_only B0 hg1 (Nat.le_refl _) B0.size
  have hR1 : Rdd w1 g ⟨l, b⟩ := Blk.grown hR0 hg1 (by intro e; injection e with e; omega)
  have c0 := Blk.cell hR1 0
  have c1 := Blk.cell hR1 1
  have n0 := Blk.cell hn1 0
  have n1 := Blk.cell hn1 1
  simp at c0 c1 n0 n1
  have hfz := Blk.frozen hR1
  clear hg1 hn0 hR0 B0 hn1
  cases b with
  | true =>
    rw [show (true || (b2 || !l2.isEmpty)) = true from rfl] at HV
    go_wp2_with fail
    go_ret
    rw [HV.out]
    exact ⟨rfl, by have := Blk.set_ hR1 1 (.bool true); simpa [Rdd] using this, only_setCell (only_of_below B1 _) (.inl rfl) _⟩
  | false =>
    cases b2 with
    | true =>
      rw [show (false || (true || !l2.isEmpty)) = true from rfl] at HV
      go_wp2_with fail
      go_ret
      rw [HV.out]
      exact ⟨rfl, by have := Blk.set_ hR1 1 (.bool true); simpa [Rdd] using this, only_setCell (only_of_below B1 _) (.inl rfl) _⟩
    | false =>
      by_cases hl2 : l2 = []
      · subst hl2
        go_wp2_with fail
        go_ret
        rw [HV.out]
        exact ⟨rfl, by have := Blk.set_ hR1 1 (.bool false); simpa [Rdd] using this, only_setCell (only_of_below B1 _) (.inl rfl) _⟩
      · have e1 : (l2 == []) = false := by simpa using hl2
        have e2 : l2.isEmpty = false := by cases l2 with | nil => exact absurd rfl hl2 | cons a t => rfl
        rw [e2] at HV
        go_wp2_with fail
        go_ret
        rw [HV.out]
        exact ⟨rfl, by have := Blk.set_ hR1 1 (.bool true); simpa [Rdd] using this, only_setCell (only_of_below B1 _) (.inl rfl) _⟩
set_option maxHeartbeats 4000000 in
theorem part_year (g : Nat) (r : RD) (s : List UInt8) (v : Int) (r2 : RD) (w : World) (hR : Rdd w g r) (hf : ∀ W g', Rdd W g' ⟨s, false⟩ → Calls Tryd.prog 63 #[.pointer (some ⟨g', 0, none⟩)] W (RetD W g' (.int .i64 v) r2)) :
    Calls Tryd.prog 60 #[.pointer (some ⟨g, 0, none⟩), .string ⟨s.toArray⟩, .func (.func 63) #[] #[]] w (RetD w g (.int .i64 v) ⟨r.l, r.bad || partB r2⟩) := by
  have HF := Lib.hid hf
  clear hf
  have B0 := bel_alloc (Below.refl w.heap.size w) (.cells #[.string ⟨s.toArray⟩, .bool false] 97)
  have hn0 : Rdd (w.alloc (.cells #[.string ⟨s.toArray⟩, .bool false] 97)) w.heap.size ⟨s, false⟩ := Blk.new w _ _
  have hgl := Blk.lt hR
  have hR0 := hR.below B0
  obtain ⟨l, b⟩ := r
  obtain ⟨l2, b2⟩ := r2
  have HV : Hid ((b || partB ⟨l2, b2⟩) = (b || (b2 || !l2.isEmpty))) := rfl
  simp only
  clear hR
  go_enter Tryd.func60, Tryd.ntmps60
  go_wp2_with fail
  (with_reducible refine (HF.out _ _ hn0).mono ?_)
  rintro e w1 ⟨rfl, hn1, hg1⟩
  have B1 := below_only B0 hg1 (Nat.le_refl _) B0.size
  have hR1 : Rdd w1 g ⟨l, b⟩ := Blk.grown hR0 hg1 (by intro e; injection e with e; omega)
  have c0 := Blk.cell hR1 0
  have c1 := Blk.cell hR1 1
  have n0 := Blk.cell hn1 0
  have n1 := Blk.cell hn1 1
  simp at c0 c1 n0 n1
  have hfz := Blk.frozen hR1
  clear hg1 hn0 hR0 B0 hn1
  cases b with
  | true =>
    rw [show (true || (b2 || !l2.isEmpty)) = true from rfl] at HV
    go_wp2_with fail
    go_ret
    rw [HV.out]
    exact ⟨rfl, by have := Blk.set_ hR1 1 (.bool true); simpa [Rdd] using this, only_setCell (only_of_below B1 _) (.inl rfl) _⟩
  | false =>
    cases b2 with
    | true =>
      rw [show (false || (true || !l2.isEmpty)) = true from rfl] at HV
      go_wp2_with fail
      go_ret
      rw [HV.out]
      exact ⟨rfl, by have := Blk.set_ hR1 1 (.bool true); simpa [Rdd] using this, only_setCell (only_of_below B1 _) (.inl rfl) _⟩
    | false =>
      by_cases hl2 : l2 = []
      · subst hl2
        go_wp2_with fail
        go_ret
        rw [HV.out]
        exact ⟨rfl, by have := Blk.set_ hR1 1 (.bool false); simpa [Rdd] using this, only_setCell (only_of_below B1 _) (.inl rfl) _⟩
      · have e1 : (l2 == []) = false := by simpa using hl2
        have e2 : l2.isEmpty = false := by cases l2 with | nil => exact absurd rfl hl2 | cons a t => rfl
        rw [e2] at HV
        go_wp2_with fail
        go_ret
        rw [HV.out]
        exact ⟨rfl, by have := Blk.set_ hR1 1 (.bool true); simpa [Rdd] using this, only_setCell (only_of_below B1 _) (.inl rfl) _⟩
set_option maxHeartbeats 4000000 in
theorem part_clock (g : Nat) (r : RD) (s : List UInt8) (v : Int) (r2 : RD) (w : World) (hR : Rdd w g r) (hf : ∀ W g', Rdd W g' ⟨s, false⟩ → Calls Tryd.prog 64 #[.pointer (some ⟨g', 0, none⟩)] W (RetD W g' (.int .i64 v) r2)) :
    Calls Tryd.prog 60 #[.pointer (some ⟨g, 0, none⟩), .string ⟨s.toArray⟩, .func (.func 64) #[] #[]] w (RetD w g (.int .i64 v) ⟨r.l, r.bad || partB r2⟩) := by
  have HF := Lib.hid hf
  clear hf
  have B0 := bel_alloc (Below.refl w.heap.size w) (.cells #[.string ⟨s.toArray⟩, .bool false] 97)
  have hn0 : Rdd (w.alloc (.cells #[.string ⟨s.toArray⟩, .bool false] 97)) w.heap.size ⟨s, false⟩ := Blk.new w _ _
  have hgl := Blk.lt hR
  have hR0 := hR.below B0
  obtain ⟨l, b⟩ := r
  obtain ⟨l2, b2⟩ := r2
  have HV : Hid ((b || partB ⟨l2, b2⟩) = (b || (b2 || !l2.isEmpty))) := rfl
  simp only
  clear hR
  go_enter Tryd.func60, Tryd.ntmps60
  go_wp2_with fail
  (with_reducible refine (HF.out _ _ hn0).mono ?_)
  rintro e w1 ⟨rfl, hn1, hg1⟩
  have B1 := below_only B0 hg1 (Nat.le_refl _) B0.size
  have hR1 : Rdd w1 g ⟨l, b⟩ := Blk.grown hR0 hg1 (by intro e; injection e with e; omega)
  have c0 := Blk.cell hR1 0
  have c1 := Blk.cell hR1 1
  have n0 := Blk.cell hn1 0
  have n1 := Blk.cell hn1 1
  simp at c0 c1 n0 n1
  have hfz := Blk.frozen hR1
  clear hg1 hn0 hR0 B0 hn1
  cases b with
  | true =>
    rw [show (true || (b2 || !l2.isEmpty)) = true from rfl] at HV
    go_wp2_with fail
    go_ret
    rw [HV.out]
    exact ⟨rfl, by have := Blk.set_ hR1 1 (.bool true); simpa [Rdd] using this, only_setCell (only_of_below B1 _) (.inl rfl) _⟩
  | false =>
    cases b2 with
    | true =>
      rw [show (false || (true || !l2.isEmpty)) = true from rfl] at HV
      go_wp2_with fail
      go_ret
      rw [HV.out]
      exact ⟨rfl, by have := Blk.set_ hR1 1 (.bool true); simpa [Rdd] using this, only_setCell (only_of_below B1 _) (.inl rfl) _⟩
    | false =>
      by_cases hl2 : l2 = []
      · subst hl2
        go_wp2_with fail
        go_ret
        rw [HV.out]
        exact ⟨rfl, by have := Blk.set_ hR1 1 (.bool false); simpa [Rdd] using this, only_setCell (only_of_below B1 _) (.inl rfl) _⟩
      · have e1 : (l2 == []) = false := by simpa using hl2
        have e2 : l2.isEmpty = false := by cases l2 with | nil => exact absurd rfl hl2 | cons a t => rfl
        rw [e2] at HV
        go_wp2_with fail
        go_ret
        rw [HV.out]
        exact ⟨rfl, by have := Blk.set_ hR1 1 (.bool true); simpa [Rdd] using this, only_setCell (only_of_below B1 _) (.inl rfl) _⟩
set_option maxHeartbeats 4000000 in
theorem part_off (g : Nat) (r : RD) (s : List UInt8) (v : Int) (r2 : RD) (w : World) (hR : Rdd w g r) (hf : ∀ W g', Rdd W g' ⟨s, false⟩ → Calls Tryd.prog 66 #[.pointer (some ⟨g', 0, none⟩)] W (RetD W g' (.int .i64 v) r2)) :
    Calls Tryd.prog 60 #[.pointer (some ⟨g, 0, none⟩), .string ⟨s.toArray⟩, .func (.func 66) #[] #[]] w (RetD w g (.int .i64 v) ⟨r.l, r.bad || partB r2⟩) := by
  have HF := Lib.hid hf
  clear hf
  have B0 := bel_alloc (Below.refl w.heap.size w) (.cells #[.string ⟨s.toArray⟩, .bool false] 97)
  have hn0 : Rdd (w.alloc (.cells #[.string ⟨s.toArray⟩, .bool false] 97)) w.heap.size ⟨s, false⟩ := Blk.new w _ _
  have hgl := Blk.lt hR
  have hR0 := hR.below B0
  obtain ⟨l, b⟩ := r
  obtain ⟨l2, b2⟩ := r2
  have HV : Hid ((b || partB ⟨l2, b2⟩) = (b || (b2 || !l2.isEmpty))) := rfl
  simp only
  clear hR
  go_enter Tryd.func60, Tryd.ntmps60
  go_wp2_with fail
  (with_reducible refine (HF.out _ _ hn0).mono ?_)
  rintro e w1 ⟨rfl, hn1, hg1⟩
  have B1 := below_only B0 hg1 (Nat.le_refl _) B0.size
  have hR1 : Rdd w1 g ⟨l, b⟩ := Blk.grown hR0 hg1 (by intro e; injection e with e; omega)
  have c0 := Blk.cell hR1 0
  have c1 := Blk.cell hR1 1
  have n0 := Blk.cell hn1 0
  have n1 := Blk.cell hn1 1
  simp at c0 c1 n0 n1
  have hfz := Blk.frozen hR1
  clear hg1 hn0 hR0 B0 hn1
  cases b with
  | true =>
    rw [show (true || (b2 || !l2.isEmpty)) = true from rfl] at HV
    go_wp2_with fail
    go_ret
    rw [HV.out]
    exact ⟨rfl, by have := Blk.set_ hR1 1 (.bool true); simpa [Rdd] using this, only_setCell (only_of_below B1 _) (.inl rfl) _⟩
  | false =>
    cases b2 with
    | true =>
      rw [show (false || (true || !l2.isEmpty)) = true from rfl] at HV
      go_wp2_with fail
      go_ret
      rw [HV.out]
      exact ⟨rfl, by have := Blk.set_ hR1 1 (.bool true); simpa [Rdd] using this, only_setCell (only_of_below B1 _) (.inl rfl) _⟩
    | false =>
      by_cases hl2 : l2 = []
      · subst hl2
        go_wp2_with fail
        go_ret
        rw [HV.out]
        exact ⟨rfl, by have := Blk.set_ hR1 1 (.bool false); simpa [Rdd] using this, only_setCell (only_of_below B1 _) (.inl rfl) _⟩
      · have e1 : (l2 == []) = false := by simpa using hl2
        have e2 : l2.isEmpty = false := by cases l2 with | nil => exact absurd rfl hl2 | cons a t => rfl
        rw [e2] at HV
        go_wp2_with fail
        go_ret
        rw [HV.out]
        exact ⟨rfl, by have := Blk.set_ hR1 1 (.bool true); simpa [Rdd] using this, only_setCell (only_of_below B1 _) (.inl rfl) _⟩
set_option maxHeartbeats 4000000 in
theorem rd_mail1 (g : Nat) (r : RD) (w : World) (hR : Rdd w g r) (hl : r.l.length ≤ 9) :
    Calls Tryd.prog 61 #[.pointer (some ⟨g, 0, none⟩)] w (RetD w g (.int .i64 (rdDig r.l.length r).1) (rdDig r.l.length r).2) := by
  have H := Lib.hid (rd_digits g r.l.length r w hR (by omega) hl)
  obtain ⟨l, b⟩ := r
  simp only at H hl ⊢
  generalize rdDig l.length ⟨l, b⟩ = q at *
  have hg := Blk.lt hR
  have c0 := Blk.cell hR 0
  simp at c0
  clear hR
  go_enter Tryd.func61, Tryd.ntmps61
  go_wp2_with fail
  (with_reducible refine (H.out).mono ?_)
  rintro e w1 ⟨rfl, hR1, hg1⟩
  go_wp2_with fail
  go_ret
  exact ⟨rfl, hR1, hg1⟩
theorem rd_mail2 (g : Nat) (r : RD) (w : World) (hR : Rdd w g r) (hl : r.l.length ≤ 100000) :
    Calls Tryd.prog 66 #[.pointer (some ⟨g, 0, none⟩)] w (RetD w g (.int .i64 (rdOff false r).1) (rdOff false r).2) := by
  have H := Lib.hid (rd_offset g false r w hR hl)
  generalize rdOff false r = q at *
  go_enter Tryd.func66, Tryd.ntmps66
  go_wp2_with fail
  (with_reducible refine (H.out).mono ?_)
  rintro e w1 ⟨rfl, hR1, hg1⟩
  go_wp2_with fail
  go_ret
  exact ⟨rfl, hR1, hg1⟩
end Go.Proofs.YtlmmiaghbommcaaDoor
end
section
namespace Go.Proofs.YtlmmiaghbommcaaDoor
open Go.RowKit Go.Nst
set_option maxRecDepth 100000
set_option linter.unusedVariables false
set_option linter.unusedSimpArgs false

theorem index_cons1 (c b : UInt8) (t : List UInt8) (h : c ≠ b) : Lib.index (c :: t) [b] = if Lib.index t [b] = -1 then -1 else Lib.index t [b] + 1 := by
  conv => lhs; unfold Lib.index
  have : List.isPrefixOf [b] (c :: t) = false := by simp [List.isPrefixOf]; exact fun e => h e.symm
  rw [this]
  simp only [Bool.false_eq_true, if_false, beq_iff_eq]
theorem index_hit1 (b : UInt8) (t : List UInt8) : Lib.index (b :: t) [b] = 0 := by
  unfold Lib.index
  have : List.isPrefixOf [b] (b :: t) = true := by simp [List.isPrefixOf]
  rw [if_pos this]
theorem split_lib (b : UInt8) : ∀ l : List UInt8, Lib.splitK [b] 0 (Lib.count l [b]) l = splitL b l
  | [] => by
    have h : Lib.index [] [b] = -1 := rfl
    rw [Lib.count_miss h]
    rfl
  | c :: t => by
    have ih := split_lib b t
    by_cases hc : c = b
    · subst hc
      have h := index_hit1 c t
      have hcnt := Lib.count_hit (s := c :: t) (sub := [c]) (i := 0) (by simp) h
      rw [hcnt]
      simp only [Nat.zero_add, List.length_singleton, List.drop_succ_cons, List.drop_zero]
      rw [Nat.add_comm 1, Lib.splitK, h]
      simp only [splitL, if_true]
      have : ((0 : Int) == -1) = false := rfl
      rw [this]
      simp [ih]
    · have hx := index_cons1 c b t hc
      rcases Lib.index_spec t [b] with ⟨h1, _⟩ | ⟨i, h1, h2, _⟩
      · rw [h1, if_pos rfl] at hx
        rw [Lib.count_miss hx]
        rw [Lib.count_miss h1] at ih
        simp only [Lib.splitK] at ih ⊢
        simp only [splitL, if_neg hc]
        rw [← ih]
      · rw [h1, if_neg (by omega)] at hx
        have hx2 : Lib.index (c :: t) [b] = ((i + 1 : Nat) : Int) := by rw [hx]; rfl
        have hct := Lib.count_hit (s := t) (sub := [b]) (i := i) (by simp) h1
        have hcc := Lib.count_hit (s := c :: t) (sub := [b]) (i := i + 1) (by simp) hx2
        simp only [List.length_singleton] at hct hcc
        rw [hct] at ih
        rw [hcc]
        rw [Nat.add_comm 1, Lib.splitK, hx2]
        rw [Nat.add_comm 1, Lib.splitK, h1] at ih
        have e1 : (((i + 1 : Nat) : Int) == -1) = false := by rw [beq_eq_false_iff_ne]; omega
        have e2 : ((i : Int) == -1) = false := by rw [beq_eq_false_iff_ne]; omega
        rw [e1]
        rw [e2] at ih
        simp only [Bool.false_eq_true, if_false, Int.toNat_natCast, Nat.add_zero, List.length_singleton] at ih ⊢
        simp only [splitL, if_neg hc]
        rw [← ih]
        simp
/-- the row that strings.Split lays -/
theorem split_row (b : UInt8) (l : List UInt8) : (Lib.splitB ⟨#[b]⟩ 0 (Lib.countB ⟨l.toArray⟩ ⟨#[b]⟩) ⟨l.toArray⟩).map Value.string = (splitL b l).map fun p => Value.string ⟨p.toArray⟩ := by
  have h := Lib.splitB_data ⟨#[b]⟩ 0 (Lib.countB ⟨l.toArray⟩ ⟨#[b]⟩) ⟨l.toArray⟩
  have h2 : (Lib.splitB ⟨#[b]⟩ 0 (Lib.countB ⟨l.toArray⟩ ⟨#[b]⟩) ⟨l.toArray⟩).map (fun x : ByteArray => x.data.toList) = splitL b l := by
    rw [h]
    exact split_lib b l
  rw [← h2, List.map_map]
  rfl
theorem split_count (b : UInt8) (l : List UInt8) : Lib.countB ⟨l.toArray⟩ ⟨#[b]⟩ + 1 = (splitL b l).length := by
  have h := Lib.splitB_all ⟨#[b]⟩ (Nat.le_refl 1) 0 _ ⟨l.toArray⟩ rfl
  have h2 := congrArg List.length (split_row b l)
  rw [List.length_map, List.length_map] at h2
  omega
end Go.Proofs.YtlmmiaghbommcaaDoor
end
