/-
  The reference's Check of an event.
-/
import Derived.Test.YtchcedoaiihnmaaGreatDoorEvK
namespace Go.Proofs.YtchcedoaiihnmaaGreatDoor
open Go.RowKit Go.Nst
set_option maxRecDepth 100000
set_option linter.unusedVariables false
set_option linter.unusedSimpArgs false

set_option maxHeartbeats 4000000 in
theorem refCheck_1 (a b n : Int) (s t u : List UInt8) (w : World) (hs : s.length ≤ 20000) (ht : t.length ≤ 20000) (hu : u.length ≤ 20000) : Calls Tryz.prog 7 #[.agg (evV 1 a b n s t u)] w fun e w' => e = .returned (.bool ((idB a && (folderB b && labelB s)) && sameB a b n s t u a b 0 s [] [])) ∧ Below w.heap.size w w' := by
  generalize hres : ((idB a && (folderB b && labelB s)) && sameB a b n s t u a b 0 s [] []) = res
  have HB := Lib.hid hres.symm
  clear hres
  unfold evV
  go_enter Tryz.func7, Tryz.ntmps7
  go_wp2_with fail
  (with_reducible refine (refId14_any a _).mono ?_)
  rintro e w1 ⟨rfl, rfl⟩
  generalize hia : idB a = ia at *
  have HIA := Lib.hid hia
  clear hia
  go_upto_region 3 with fail
  go_cut [5] (fun v wx => v = .bool (flagB n) ∧ wx = (w.alloc (.cells (evV 1 a b n s t u) 23)).alloc (.cells (evV 1 a 0 0 [] [] []) 23))
  case first =>
    by_cases hn0 : n = 0
    · have HF : Hid (flagB n = true) := Lib.hid (by unfold flagB; rw [hn0]; rfl)
      have e0 : (n == 0) = true := by simpa using hn0
      clear hn0
      go_wp2_with fail
      go_meet
      exact ⟨by rw [HF.out], rfl⟩
    · have HF : Hid (flagB n = (n == 1)) := Lib.hid (by unfold flagB; rw [show (n == 0) = false by simpa using hn0]; rfl)
      have e0 : (n == 0) = false := by simpa using hn0
      clear hn0
      go_wp2_with fail
      go_meet
      exact ⟨by rw [HF.out], rfl⟩
  case rest =>
    obtain ⟨rfl, rfl⟩ := hcut
    simp only [evV]
    generalize hfl : flagB n = fl at *
    have HFL := Lib.hid hfl
    clear hfl
    go_upto_region 4 with fail
    go_cut [6] (fun v wx => v = .bool (folderB b) ∧ wx = (w.alloc (.cells (evV 1 a b n s t u) 23)).alloc (.cells (evV 1 a 0 0 [] [] []) 23))
    case first =>
      by_cases hb0 : b = 0
      · have HF : Hid (folderB b = true) := Lib.hid (by unfold folderB; rw [hb0]; rfl)
        have e0 : (b == 0) = true := by simpa using hb0
        clear hb0
        go_wp2_with fail
        go_meet
        exact ⟨by rw [HF.out], rfl⟩
      · have HF : Hid (folderB b = idB b) := Lib.hid (by unfold folderB; rw [show (b == 0) = false by simpa using hb0]; rfl)
        have e0 : (b == 0) = false := by simpa using hb0
        clear hb0
        go_wp2_with fail
        (with_reducible refine (refId14_any b _).mono ?_)
        rintro e w1 ⟨rfl, rfl⟩
        go_wp2_with fail
        go_meet
        exact ⟨by rw [HF.out], rfl⟩
    case rest =>
      obtain ⟨rfl, rfl⟩ := hcut
      simp only [evV]
      generalize hff : folderB b = fo at *
      have HFF := Lib.hid hff
      clear hff
      try rw [HIA.out] at HB
      try rw [HFL.out] at HB
      try rw [HFF.out] at HB
      clear HIA HFL HFF
      cases ia with
      | false =>
        simp only [Bool.false_and] at HB
        go_wp2_with fail
        go_region
        go_wp2_with fail
        go_ret
        exact ⟨by rw [HB.out]; rfl, (bel_alloc (bel_alloc (Below.refl w.heap.size w) _) _).drew⟩
      | true =>
        simp only [Bool.true_and] at HB
        cases fo with
        | false =>
          simp only [Bool.false_and] at HB
          go_wp2_with fail
          go_region
          go_wp2_with fail
          go_ret
          exact ⟨by rw [HB.out]; rfl, (bel_alloc (bel_alloc (Below.refl w.heap.size w) _) _).drew⟩
        | true =>
          simp only [Bool.true_and] at HB
          have H2 := Lib.hid (fun W => refLabel_any s W hs)
          cases hc2 : labelB s with
          | false =>
            rw [hc2] at HB H2
            simp only [Bool.false_and] at HB
            clear hc2
            go_wp2_with fail
            go_region
            go_wp2_with fail
            (with_reducible refine (H2.out _).mono ?_)
            rintro e w1 ⟨rfl, hb1⟩
            have B1 := bel_step ((bel_alloc (bel_alloc (Below.refl w.heap.size w) _) _).drew) hb1
            have G1 := hb1
            have c1_0 : w1.cell? ⟨w.heap.size, 0, none⟩ = some (.int .i64 1) := (G1.cell (p := ⟨w.heap.size, 0, none⟩) (by simp; omega)).trans (by simp)
            have c1_1 : w1.cell? ⟨w.heap.size, 1, none⟩ = some (.int .i64 a) := (G1.cell (p := ⟨w.heap.size, 1, none⟩) (by simp; omega)).trans (by simp)
            have c1_2 : w1.cell? ⟨w.heap.size, 2, none⟩ = some (.int .i64 b) := (G1.cell (p := ⟨w.heap.size, 2, none⟩) (by simp; omega)).trans (by simp)
            have c1_3 : w1.cell? ⟨w.heap.size, 3, none⟩ = some (.int .i64 n) := (G1.cell (p := ⟨w.heap.size, 3, none⟩) (by simp; omega)).trans (by simp)
            have c1_4 : w1.cell? ⟨w.heap.size, 4, none⟩ = some (.string ⟨(s : List UInt8).toArray⟩) := (G1.cell (p := ⟨w.heap.size, 4, none⟩) (by simp; omega)).trans (by simp)
            have c1_5 : w1.cell? ⟨w.heap.size, 5, none⟩ = some (.string ⟨(t : List UInt8).toArray⟩) := (G1.cell (p := ⟨w.heap.size, 5, none⟩) (by simp; omega)).trans (by simp)
            have c1_6 : w1.cell? ⟨w.heap.size, 6, none⟩ = some (.string ⟨(u : List UInt8).toArray⟩) := (G1.cell (p := ⟨w.heap.size, 6, none⟩) (by simp; omega)).trans (by simp)
            have d1_0 : w1.cell? ⟨w.heap.size + 1, 0, none⟩ = some (.int .i64 1) := (G1.cell (p := ⟨w.heap.size + 1, 0, none⟩) (by simp)).trans (by simp)
            have d1_1 : w1.cell? ⟨w.heap.size + 1, 1, none⟩ = some (.int .i64 a) := (G1.cell (p := ⟨w.heap.size + 1, 1, none⟩) (by simp)).trans (by simp)
            have d1_2 : w1.cell? ⟨w.heap.size + 1, 2, none⟩ = some (.int .i64 b) := (G1.cell (p := ⟨w.heap.size + 1, 2, none⟩) (by simp)).trans (by simp)
            have d1_3 : w1.cell? ⟨w.heap.size + 1, 3, none⟩ = some (.int .i64 0) := (G1.cell (p := ⟨w.heap.size + 1, 3, none⟩) (by simp)).trans (by simp)
            have d1_4 : w1.cell? ⟨w.heap.size + 1, 4, none⟩ = some (.string ⟨(s : List UInt8).toArray⟩) := (G1.cell (p := ⟨w.heap.size + 1, 4, none⟩) (by simp)).trans (by simp)
            have d1_5 : w1.cell? ⟨w.heap.size + 1, 5, none⟩ = some (.string ⟨([] : List UInt8).toArray⟩) := (G1.cell (p := ⟨w.heap.size + 1, 5, none⟩) (by simp)).trans (by simp)
            have d1_6 : w1.cell? ⟨w.heap.size + 1, 6, none⟩ = some (.string ⟨([] : List UInt8).toArray⟩) := (G1.cell (p := ⟨w.heap.size + 1, 6, none⟩) (by simp)).trans (by simp)
            go_wp2_with fail
            go_ret
            exact ⟨by rw [HB.out]; rfl, B1⟩
          | true =>
            rw [hc2] at HB H2
            simp only [Bool.true_and] at HB
            clear hc2
            go_wp2_with fail
            go_region
            go_wp2_with fail
            (with_reducible refine (H2.out _).mono ?_)
            rintro e w1 ⟨rfl, hb1⟩
            have B1 := bel_step ((bel_alloc (bel_alloc (Below.refl w.heap.size w) _) _).drew) hb1
            have G1 := hb1
            have c1_0 : w1.cell? ⟨w.heap.size, 0, none⟩ = some (.int .i64 1) := (G1.cell (p := ⟨w.heap.size, 0, none⟩) (by simp; omega)).trans (by simp)
            have c1_1 : w1.cell? ⟨w.heap.size, 1, none⟩ = some (.int .i64 a) := (G1.cell (p := ⟨w.heap.size, 1, none⟩) (by simp; omega)).trans (by simp)
            have c1_2 : w1.cell? ⟨w.heap.size, 2, none⟩ = some (.int .i64 b) := (G1.cell (p := ⟨w.heap.size, 2, none⟩) (by simp; omega)).trans (by simp)
            have c1_3 : w1.cell? ⟨w.heap.size, 3, none⟩ = some (.int .i64 n) := (G1.cell (p := ⟨w.heap.size, 3, none⟩) (by simp; omega)).trans (by simp)
            have c1_4 : w1.cell? ⟨w.heap.size, 4, none⟩ = some (.string ⟨(s : List UInt8).toArray⟩) := (G1.cell (p := ⟨w.heap.size, 4, none⟩) (by simp; omega)).trans (by simp)
            have c1_5 : w1.cell? ⟨w.heap.size, 5, none⟩ = some (.string ⟨(t : List UInt8).toArray⟩) := (G1.cell (p := ⟨w.heap.size, 5, none⟩) (by simp; omega)).trans (by simp)
            have c1_6 : w1.cell? ⟨w.heap.size, 6, none⟩ = some (.string ⟨(u : List UInt8).toArray⟩) := (G1.cell (p := ⟨w.heap.size, 6, none⟩) (by simp; omega)).trans (by simp)
            have d1_0 : w1.cell? ⟨w.heap.size + 1, 0, none⟩ = some (.int .i64 1) := (G1.cell (p := ⟨w.heap.size + 1, 0, none⟩) (by simp)).trans (by simp)
            have d1_1 : w1.cell? ⟨w.heap.size + 1, 1, none⟩ = some (.int .i64 a) := (G1.cell (p := ⟨w.heap.size + 1, 1, none⟩) (by simp)).trans (by simp)
            have d1_2 : w1.cell? ⟨w.heap.size + 1, 2, none⟩ = some (.int .i64 b) := (G1.cell (p := ⟨w.heap.size + 1, 2, none⟩) (by simp)).trans (by simp)
            have d1_3 : w1.cell? ⟨w.heap.size + 1, 3, none⟩ = some (.int .i64 0) := (G1.cell (p := ⟨w.heap.size + 1, 3, none⟩) (by simp)).trans (by simp)
            have d1_4 : w1.cell? ⟨w.heap.size + 1, 4, none⟩ = some (.string ⟨(s : List UInt8).toArray⟩) := (G1.cell (p := ⟨w.heap.size + 1, 4, none⟩) (by simp)).trans (by simp)
            have d1_5 : w1.cell? ⟨w.heap.size + 1, 5, none⟩ = some (.string ⟨([] : List UInt8).toArray⟩) := (G1.cell (p := ⟨w.heap.size + 1, 5, none⟩) (by simp)).trans (by simp)
            have d1_6 : w1.cell? ⟨w.heap.size + 1, 6, none⟩ = some (.string ⟨([] : List UInt8).toArray⟩) := (G1.cell (p := ⟨w.heap.size + 1, 6, none⟩) (by simp)).trans (by simp)
            go_wp2_with fail
            all_goals (go_ret; exact ⟨by rw [HB.out]; simp_all [sameB], B1⟩)
set_option maxHeartbeats 4000000 in
theorem refCheck_2 (a b n : Int) (s t u : List UInt8) (w : World) (hs : s.length ≤ 20000) (ht : t.length ≤ 20000) (hu : u.length ≤ 20000) : Calls Tryz.prog 7 #[.agg (evV 2 a b n s t u)] w fun e w' => e = .returned (.bool (idB a && sameB a b n s t u a 0 0 [] [] [])) ∧ Below w.heap.size w w' := by
  generalize hres : (idB a && sameB a b n s t u a 0 0 [] [] []) = res
  have HB := Lib.hid hres.symm
  clear hres
  unfold evV
  go_enter Tryz.func7, Tryz.ntmps7
  go_wp2_with fail
  (with_reducible refine (refId14_any a _).mono ?_)
  rintro e w1 ⟨rfl, rfl⟩
  generalize hia : idB a = ia at *
  have HIA := Lib.hid hia
  clear hia
  go_upto_region 3 with fail
  go_cut [5] (fun v wx => v = .bool (flagB n) ∧ wx = (w.alloc (.cells (evV 2 a b n s t u) 23)).alloc (.cells (evV 2 a 0 0 [] [] []) 23))
  case first =>
    by_cases hn0 : n = 0
    · have HF : Hid (flagB n = true) := Lib.hid (by unfold flagB; rw [hn0]; rfl)
      have e0 : (n == 0) = true := by simpa using hn0
      clear hn0
      go_wp2_with fail
      go_meet
      exact ⟨by rw [HF.out], rfl⟩
    · have HF : Hid (flagB n = (n == 1)) := Lib.hid (by unfold flagB; rw [show (n == 0) = false by simpa using hn0]; rfl)
      have e0 : (n == 0) = false := by simpa using hn0
      clear hn0
      go_wp2_with fail
      go_meet
      exact ⟨by rw [HF.out], rfl⟩
  case rest =>
    obtain ⟨rfl, rfl⟩ := hcut
    simp only [evV]
    generalize hfl : flagB n = fl at *
    have HFL := Lib.hid hfl
    clear hfl
    go_upto_region 4 with fail
    go_cut [6] (fun v wx => v = .bool (folderB b) ∧ wx = (w.alloc (.cells (evV 2 a b n s t u) 23)).alloc (.cells (evV 2 a 0 0 [] [] []) 23))
    case first =>
      by_cases hb0 : b = 0
      · have HF : Hid (folderB b = true) := Lib.hid (by unfold folderB; rw [hb0]; rfl)
        have e0 : (b == 0) = true := by simpa using hb0
        clear hb0
        go_wp2_with fail
        go_meet
        exact ⟨by rw [HF.out], rfl⟩
      · have HF : Hid (folderB b = idB b) := Lib.hid (by unfold folderB; rw [show (b == 0) = false by simpa using hb0]; rfl)
        have e0 : (b == 0) = false := by simpa using hb0
        clear hb0
        go_wp2_with fail
        (with_reducible refine (refId14_any b _).mono ?_)
        rintro e w1 ⟨rfl, rfl⟩
        go_wp2_with fail
        go_meet
        exact ⟨by rw [HF.out], rfl⟩
    case rest =>
      obtain ⟨rfl, rfl⟩ := hcut
      simp only [evV]
      generalize hff : folderB b = fo at *
      have HFF := Lib.hid hff
      clear hff
      try rw [HIA.out] at HB
      try rw [HFL.out] at HB
      try rw [HFF.out] at HB
      clear HIA HFL HFF
      cases ia with
      | false =>
        simp only [Bool.false_and] at HB
        go_wp2_with fail
        go_ret
        exact ⟨by rw [HB.out]; rfl, bel_alloc (bel_alloc (Below.refl w.heap.size w) _) _⟩
      | true =>
        simp only [Bool.true_and] at HB
        go_wp2_with fail
        all_goals (go_ret; exact ⟨by rw [HB.out]; simp_all [sameB], bel_alloc (bel_alloc (Below.refl w.heap.size w) _) _⟩)
set_option maxHeartbeats 4000000 in
theorem refCheck_4 (a b n : Int) (s t u : List UInt8) (w : World) (hs : s.length ≤ 20000) (ht : t.length ≤ 20000) (hu : u.length ≤ 20000) : Calls Tryz.prog 7 #[.agg (evV 4 a b n s t u)] w fun e w' => e = .returned (.bool (idB a && sameB a b n s t u a 0 0 [] [] [])) ∧ Below w.heap.size w w' := by
  generalize hres : (idB a && sameB a b n s t u a 0 0 [] [] []) = res
  have HB := Lib.hid hres.symm
  clear hres
  unfold evV
  go_enter Tryz.func7, Tryz.ntmps7
  go_wp2_with fail
  (with_reducible refine (refId14_any a _).mono ?_)
  rintro e w1 ⟨rfl, rfl⟩
  generalize hia : idB a = ia at *
  have HIA := Lib.hid hia
  clear hia
  go_upto_region 3 with fail
  go_cut [5] (fun v wx => v = .bool (flagB n) ∧ wx = (w.alloc (.cells (evV 4 a b n s t u) 23)).alloc (.cells (evV 4 a 0 0 [] [] []) 23))
  case first =>
    by_cases hn0 : n = 0
    · have HF : Hid (flagB n = true) := Lib.hid (by unfold flagB; rw [hn0]; rfl)
      have e0 : (n == 0) = true := by simpa using hn0
      clear hn0
      go_wp2_with fail
      go_meet
      exact ⟨by rw [HF.out], rfl⟩
    · have HF : Hid (flagB n = (n == 1)) := Lib.hid (by unfold flagB; rw [show (n == 0) = false by simpa using hn0]; rfl)
      have e0 : (n == 0) = false := by simpa using hn0
      clear hn0
      go_wp2_with fail
      go_meet
      exact ⟨by rw [HF.out], rfl⟩
  case rest =>
    obtain ⟨rfl, rfl⟩ := hcut
    simp only [evV]
    generalize hfl : flagB n = fl at *
    have HFL := Lib.hid hfl
    clear hfl
    go_upto_region 4 with fail
    go_cut [6] (fun v wx => v = .bool (folderB b) ∧ wx = (w.alloc (.cells (evV 4 a b n s t u) 23)).alloc (.cells (evV 4 a 0 0 [] [] []) 23))
    case first =>
      by_cases hb0 : b = 0
      · have HF : Hid (folderB b = true) := Lib.hid (by unfold folderB; rw [hb0]; rfl)
        have e0 : (b == 0) = true := by simpa using hb0
        clear hb0
        go_wp2_with fail
        go_meet
        exact ⟨by rw [HF.out], rfl⟩
      · have HF : Hid (folderB b = idB b) := Lib.hid (by unfold folderB; rw [show (b == 0) = false by simpa using hb0]; rfl)
        have e0 : (b == 0) = false := by simpa using hb0
        clear hb0
        go_wp2_with fail
        (with_reducible refine (refId14_any b _).mono ?_)
        rintro e w1 ⟨rfl, rfl⟩
        go_wp2_with fail
        go_meet
        exact ⟨by rw [HF.out], rfl⟩
    case rest =>
      obtain ⟨rfl, rfl⟩ := hcut
      simp only [evV]
      generalize hff : folderB b = fo at *
      have HFF := Lib.hid hff
      clear hff
      try rw [HIA.out] at HB
      try rw [HFL.out] at HB
      try rw [HFF.out] at HB
      clear HIA HFL HFF
      cases ia with
      | false =>
        simp only [Bool.false_and] at HB
        go_wp2_with fail
        go_ret
        exact ⟨by rw [HB.out]; rfl, bel_alloc (bel_alloc (Below.refl w.heap.size w) _) _⟩
      | true =>
        simp only [Bool.true_and] at HB
        go_wp2_with fail
        all_goals (go_ret; exact ⟨by rw [HB.out]; simp_all [sameB], bel_alloc (bel_alloc (Below.refl w.heap.size w) _) _⟩)
end Go.Proofs.YtchcedoaiihnmaaGreatDoor
