/-
  Dates of the mail: month, weekday, named, year, clock, part (printed by gen_dtm.py).
-/
import Derived.Test.YtobidipkgaaecaaDoorDtZ
import Derived.Lib.IndexMore
namespace Go.Proofs.YtobidipkgaaecaaDoor
open Go.RowKit Go.Nst
set_option maxRecDepth 100000
set_option linter.unusedVariables false
set_option linter.unusedSimpArgs false

def monN : List UInt8 := [74, 97, 110, 70, 101, 98, 77, 97, 114, 65, 112, 114, 77, 97, 121, 74, 117, 110, 74, 117, 108, 65, 117, 103, 83, 101, 112, 79, 99, 116, 78, 111, 118, 68, 101, 99]
theorem indexL_not : ∀ {l : List (List UInt8)} {s : List UInt8}, s ∉ l → indexL l s = -1
  | [], _, _ => rfl
  | x :: l, s, h => by
    have h1 : ¬ x = s := fun e => h (by simp [e])
    have h2 : s ∉ l := fun e => h (by simp [e])
    unfold indexL
    rw [if_neg h1, indexL_not h2]
    rfl
theorem names3 : ∀ s ∈ namesM, s.length = 3 := by decide
theorem mon_cut : ∀ k : Fin 12, (monN.drop (3 * k.1)).take 3 ∈ namesM := by decide
theorem mon_at : ∀ s ∈ namesM, (0 ≤ Lib.index monN s ∧ Lib.index monN s % 3 = 0 ∧ Lib.index monN s / 3 = indexL namesM s) := by decide +kernel
theorem mon_not {s : List UInt8} (h3 : s.length = 3) (h : s ∉ namesM) : Lib.index monN s < 0 ∨ Lib.index monN s % 3 ≠ 0 := by
  rcases Lib.index_spec monN s with ⟨h1, _⟩ | ⟨i, h1, h2, h4, _⟩
  · left; omega
  · right
    intro hm
    rw [h1] at hm
    have hr := Lib.index_room monN s (by omega)
    rw [h1, h3, show monN.length = 36 from rfl] at hr
    have hi : i = 3 * (i / 3) := by omega
    have hk := mon_cut ⟨i / 3, by omega⟩
    simp only at hk
    rw [← hi] at hk
    have hp := List.isPrefixOf_iff_prefix.1 h4
    have := List.prefix_iff_eq_take.1 hp
    rw [h3] at this
    rw [← this] at hk
    exact h hk
theorem index_big (s : List UInt8) : Lib.index monN s ≤ 36 := by
  rcases Lib.index_spec monN s with ⟨h1, _⟩ | ⟨i, h1, h2, _⟩
  · omega
  · have : monN.length = 36 := rfl
    omega
set_option maxHeartbeats 4000000 in
theorem month_any (l : List UInt8) (m : Int) (w : World) (hl : l.length ≤ 100000) (hm : w.cell? ⟨0, 0, none⟩ = some (.int .i64 m)) : Calls Tryd.prog 46 #[.string ⟨l.toArray⟩] w fun e w' => e = .returned (.int .i64 (indexL namesM l + 1)) ∧ w = w' := by
  have HI : Hid (Calls Tryd.prog 65 #[.string ⟨#[74, 97, 110, 70, 101, 98, 77, 97, 114, 65, 112, 114, 77, 97, 121, 74, 117, 110, 74, 117, 108, 65, 117, 103, 83, 101, 112, 79, 99, 116, 78, 111, 118, 68, 101, 99]⟩, .string ⟨l.toArray⟩] w fun e w' => e = .returned (.int .i64 (Lib.index monN l)) ∧ w' = w) := Lib.hid (Tryd.strings_Index ⟨#[74, 97, 110, 70, 101, 98, 77, 97, 114, 65, 112, 114, 77, 97, 121, 74, 117, 110, 74, 117, 108, 65, 117, 103, 83, 101, 112, 79, 99, 116, 78, 111, 118, 68, 101, 99]⟩ ⟨l.toArray⟩ m w (by decide) hm)
  have hb := index_big l
  by_cases h3 : l.length = 3
  · have d1 : decide ((l.length : Int) = 3) = true := by simp; omega
    have d2 : ((l.length : Int) != 3) = false := by simp; omega
    by_cases hin : l ∈ namesM
    · obtain ⟨g1, g2, g3⟩ := mon_at l hin
      rw [← g3]
      generalize Lib.index monN l = i at *
      have t1 : decide (i < 0) = false := by simp; omega
      have t2 : i.tmod 3 = 0 := by rw [Int.tmod_eq_emod_of_nonneg g1]; exact g2
      have t3 : IntKind.i64.wrap (i / 3) = i / 3 := IntWalk.i64_in _ (by omega)
      have t3b : IntKind.i64.wrap (i.tdiv 3) = i / 3 := by rw [Int.tdiv_eq_ediv_of_nonneg g1]; exact t3
      have t4 : IntKind.i64.wrap (i / 3 + 1) = i / 3 + 1 := IntWalk.i64_in _ (by omega)
      clear hin g2 g3
      go_enter Tryd.func46, Tryd.ntmps46
      go_wp2_with fail
      (with_reducible refine (HI.out).mono ?_)
      rintro e w1 ⟨rfl, rfl⟩
      go_wp2_with fail
      go_ret
      exact ⟨rfl, rfl⟩
    · have hz := mon_not h3 hin
      rw [indexL_not hin]
      clear hin
      generalize Lib.index monN l = i at *
      by_cases hi : i < 0
      · have t1 : decide (i < 0) = true := by simpa using hi
        go_enter Tryd.func46, Tryd.ntmps46
        go_wp2_with fail
        (with_reducible refine (HI.out).mono ?_)
        rintro e w1 ⟨rfl, rfl⟩
        go_wp2_with fail
        go_ret
        exact ⟨rfl, rfl⟩
      · have t1 : decide (i < 0) = false := by simpa using hi
        have t2 : i.tmod 3 = i % 3 := Int.tmod_eq_emod_of_nonneg (by omega)
        have t5 : decide (i % 3 = 0) = false := by simp; omega
        have t6 : (i % 3 != 0) = true := by simp; omega
        clear hz
        go_enter Tryd.func46, Tryd.ntmps46
        go_wp2_with fail
        (with_reducible refine (HI.out).mono ?_)
        rintro e w1 ⟨rfl, rfl⟩
        go_wp2_with fail
        go_ret
        exact ⟨rfl, rfl⟩
  · have d1 : decide ((l.length : Int) = 3) = false := by simp; omega
    have d2 : ((l.length : Int) != 3) = true := by simp; omega
    rw [indexL_not (fun h => h3 (names3 l h))]
    generalize Lib.index monN l = i at *
    go_enter Tryd.func46, Tryd.ntmps46
    go_wp2_with fail
    (with_reducible refine (HI.out).mono ?_)
    rintro e w1 ⟨rfl, rfl⟩
    go_wp2_with fail
    go_ret
    exact ⟨rfl, rfl⟩
set_option maxHeartbeats 4000000 in
theorem weekday_any (l : List UInt8) (w : World) : Calls Tryd.prog 43 #[.string ⟨l.toArray⟩] w fun e w' => e = .returned (.bool (decide (0 ≤ indexL namesW l))) ∧ w = w' := by
  by_cases h0 : l = [77, 111, 110, 44]
  · subst h0
    go_enter Tryd.func43, Tryd.ntmps43
    go_wp2_with fail
    go_ret
    exact ⟨rfl, rfl⟩
  have e0 : (l == [77, 111, 110, 44]) = false := by simpa using h0
  by_cases h1 : l = [84, 117, 101, 44]
  · subst h1
    go_enter Tryd.func43, Tryd.ntmps43
    go_wp2_with fail
    go_ret
    exact ⟨rfl, rfl⟩
  have e1 : (l == [84, 117, 101, 44]) = false := by simpa using h1
  by_cases h2 : l = [87, 101, 100, 44]
  · subst h2
    go_enter Tryd.func43, Tryd.ntmps43
    go_wp2_with fail
    go_ret
    exact ⟨rfl, rfl⟩
  have e2 : (l == [87, 101, 100, 44]) = false := by simpa using h2
  by_cases h3 : l = [84, 104, 117, 44]
  · subst h3
    go_enter Tryd.func43, Tryd.ntmps43
    go_wp2_with fail
    go_ret
    exact ⟨rfl, rfl⟩
  have e3 : (l == [84, 104, 117, 44]) = false := by simpa using h3
  by_cases h4 : l = [70, 114, 105, 44]
  · subst h4
    go_enter Tryd.func43, Tryd.ntmps43
    go_wp2_with fail
    go_ret
    exact ⟨rfl, rfl⟩
  have e4 : (l == [70, 114, 105, 44]) = false := by simpa using h4
  by_cases h5 : l = [83, 97, 116, 44]
  · subst h5
    go_enter Tryd.func43, Tryd.ntmps43
    go_wp2_with fail
    go_ret
    exact ⟨rfl, rfl⟩
  have e5 : (l == [83, 97, 116, 44]) = false := by simpa using h5
  by_cases h6 : l = [83, 117, 110, 44]
  · subst h6
    go_enter Tryd.func43, Tryd.ntmps43
    go_wp2_with fail
    go_ret
    exact ⟨rfl, rfl⟩
  have e6 : (l == [83, 117, 110, 44]) = false := by simpa using h6
  have HV : Hid (indexL namesW l = -1) := Lib.hid (indexL_not (by simp [namesW, h0, h1, h2, h3, h4, h5, h6]))
  go_enter Tryd.func43, Tryd.ntmps43
  go_wp2_with fail
  go_ret
  rw [HV.out]
  exact ⟨rfl, rfl⟩
def znV (o : Option Int) : Value := .tuple #[.int .i64 (o.getD 0), .bool o.isSome]
set_option maxHeartbeats 4000000 in
theorem named_any (l : List UInt8) (w : World) : Calls Tryd.prog 49 #[.string ⟨l.toArray⟩] w fun e w' => e = .returned (znV (zoneN l)) ∧ w = w' := by
  by_cases h0 : l = [71, 77, 84]
  · subst h0
    go_enter Tryd.func49, Tryd.ntmps49
    go_wp2_with fail
    go_ret2
    exact ⟨rfl, rfl⟩
  have e0 : (l == [71, 77, 84]) = false := by simpa using h0
  by_cases h1 : l = [85, 84]
  · subst h1
    go_enter Tryd.func49, Tryd.ntmps49
    go_wp2_with fail
    go_ret2
    exact ⟨rfl, rfl⟩
  have e1 : (l == [85, 84]) = false := by simpa using h1
  by_cases h2 : l = [85, 84, 67]
  · subst h2
    go_enter Tryd.func49, Tryd.ntmps49
    go_wp2_with fail
    go_ret2
    exact ⟨rfl, rfl⟩
  have e2 : (l == [85, 84, 67]) = false := by simpa using h2
  by_cases h3 : l = [90]
  · subst h3
    go_enter Tryd.func49, Tryd.ntmps49
    go_wp2_with fail
    go_ret2
    exact ⟨rfl, rfl⟩
  have e3 : (l == [90]) = false := by simpa using h3
  by_cases h4 : l = [69, 68, 84]
  · subst h4
    go_enter Tryd.func49, Tryd.ntmps49
    go_wp2_with fail
    go_ret2
    exact ⟨rfl, rfl⟩
  have e4 : (l == [69, 68, 84]) = false := by simpa using h4
  by_cases h5 : l = [69, 83, 84]
  · subst h5
    go_enter Tryd.func49, Tryd.ntmps49
    go_wp2_with fail
    go_ret2
    exact ⟨rfl, rfl⟩
  have e5 : (l == [69, 83, 84]) = false := by simpa using h5
  by_cases h6 : l = [67, 68, 84]
  · subst h6
    go_enter Tryd.func49, Tryd.ntmps49
    go_wp2_with fail
    go_ret2
    exact ⟨rfl, rfl⟩
  have e6 : (l == [67, 68, 84]) = false := by simpa using h6
  by_cases h7 : l = [67, 83, 84]
  · subst h7
    go_enter Tryd.func49, Tryd.ntmps49
    go_wp2_with fail
    go_ret2
    exact ⟨rfl, rfl⟩
  have e7 : (l == [67, 83, 84]) = false := by simpa using h7
  by_cases h8 : l = [77, 68, 84]
  · subst h8
    go_enter Tryd.func49, Tryd.ntmps49
    go_wp2_with fail
    go_ret2
    exact ⟨rfl, rfl⟩
  have e8 : (l == [77, 68, 84]) = false := by simpa using h8
  by_cases h9 : l = [77, 83, 84]
  · subst h9
    go_enter Tryd.func49, Tryd.ntmps49
    go_wp2_with fail
    go_ret2
    exact ⟨rfl, rfl⟩
  have e9 : (l == [77, 83, 84]) = false := by simpa using h9
  by_cases h10 : l = [80, 68, 84]
  · subst h10
    go_enter Tryd.func49, Tryd.ntmps49
    go_wp2_with fail
    go_ret2
    exact ⟨rfl, rfl⟩
  have e10 : (l == [80, 68, 84]) = false := by simpa using h10
  by_cases h11 : l = [80, 83, 84]
  · subst h11
    go_enter Tryd.func49, Tryd.ntmps49
    go_wp2_with fail
    go_ret2
    exact ⟨rfl, rfl⟩
  have e11 : (l == [80, 83, 84]) = false := by simpa using h11
  have HV : Hid (zoneN l = none) := Lib.hid (by unfold zoneN; simp [h0, h1, h2, h3, h4, h5, h6, h7, h8, h9, h10, h11])
  go_enter Tryd.func49, Tryd.ntmps49
  go_wp2_with fail
  go_ret2
  rw [HV.out]
  exact ⟨rfl, rfl⟩
end Go.Proofs.YtobidipkgaaecaaDoor
