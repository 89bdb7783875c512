/-
  The reference's Check of an event.
-/
import Derived.Test.YtchcedoaiihnmaaGreatDoorEvK
namespace Go.Proofs.YtchcedoaiihnmaaGreatDoor
open Go.RowKit Go.Nst
set_option maxRecDepth 100000
set_option linter.unusedVariables false
set_option linter.unusedSimpArgs false

set_option maxHeartbeats 4000000 in
theorem refCheck_6 (a b n : Int) (s t u : List UInt8) (w : World) (hs : s.length ≤ 20000) (ht : t.length ≤ 20000) (hu : u.length ≤ 20000) : Calls Tryz.prog 7 #[.agg (evV 6 a b n s t u)] w fun e w' => e = .returned (.bool ((idB a && folderB b) && sameB a b n s t u a b 0 [] [] [])) ∧ Below w.heap.size w w' := by
  generalize hres : ((idB a && folderB b) && sameB a b n s t u a b 0 [] [] []) = res
  have HB := Lib.hid hres.symm
  clear hres
  unfold evV
  go_enter Tryz.func7, Tryz.ntmps7
  go_wp2_with fail
  (with_reducible refine (refId14_any a _).mono ?_)
  rintro e w1 ⟨rfl, rfl⟩
  generalize hia : idB a = ia at *
  have HIA := Lib.hid hia
  clear hia
  go_upto_region 3 with fail
  go_cut [5] (fun v wx => v = .bool (flagB n) ∧ wx = (w.alloc (.cells (evV 6 a b n s t u) 23)).alloc (.cells (evV 6 a 0 0 [] [] []) 23))
  case first =>
    by_cases hn0 : n = 0
    · have HF : Hid (flagB n = true) := Lib.hid (by unfold flagB; rw [hn0]; rfl)
      have e0 : (n == 0) = true := by simpa using hn0
      clear hn0
      go_wp2_with fail
      go_meet
      exact ⟨by rw [HF.out], rfl⟩
    · have HF : Hid (flagB n = (n == 1)) := Lib.hid (by unfold flagB; rw [show (n == 0) = false by simpa using hn0]; rfl)
      have e0 : (n == 0) = false := by simpa using hn0
      clear hn0
      go_wp2_with fail
      go_meet
      exact ⟨by rw [HF.out], rfl⟩
  case rest =>
    obtain ⟨rfl, rfl⟩ := hcut
    simp only [evV]
    generalize hfl : flagB n = fl at *
    have HFL := Lib.hid hfl
    clear hfl
    go_upto_region 4 with fail
    go_cut [6] (fun v wx => v = .bool (folderB b) ∧ wx = (w.alloc (.cells (evV 6 a b n s t u) 23)).alloc (.cells (evV 6 a 0 0 [] [] []) 23))
    case first =>
      by_cases hb0 : b = 0
      · have HF : Hid (folderB b = true) := Lib.hid (by unfold folderB; rw [hb0]; rfl)
        have e0 : (b == 0) = true := by simpa using hb0
        clear hb0
        go_wp2_with fail
        go_meet
        exact ⟨by rw [HF.out], rfl⟩
      · have HF : Hid (folderB b = idB b) := Lib.hid (by unfold folderB; rw [show (b == 0) = false by simpa using hb0]; rfl)
        have e0 : (b == 0) = false := by simpa using hb0
        clear hb0
        go_wp2_with fail
        (with_reducible refine (refId14_any b _).mono ?_)
        rintro e w1 ⟨rfl, rfl⟩
        go_wp2_with fail
        go_meet
        exact ⟨by rw [HF.out], rfl⟩
    case rest =>
      obtain ⟨rfl, rfl⟩ := hcut
      simp only [evV]
      generalize hff : folderB b = fo at *
      have HFF := Lib.hid hff
      clear hff
      try rw [HIA.out] at HB
      try rw [HFL.out] at HB
      try rw [HFF.out] at HB
      clear HIA HFL HFF
      cases ia with
      | false =>
        simp only [Bool.false_and] at HB
        go_wp2_with fail
        go_ret
        exact ⟨by rw [HB.out]; rfl, bel_alloc (bel_alloc (Below.refl w.heap.size w) _) _⟩
      | true =>
        simp only [Bool.true_and] at HB
        cases fo with
        | false =>
          simp only [Bool.false_and] at HB
          go_wp2_with fail
          go_ret
          exact ⟨by rw [HB.out]; rfl, bel_alloc (bel_alloc (Below.refl w.heap.size w) _) _⟩
        | true =>
          simp only [Bool.true_and] at HB
          go_wp2_with fail
          all_goals (go_ret; exact ⟨by rw [HB.out]; simp_all [sameB], bel_alloc (bel_alloc (Below.refl w.heap.size w) _) _⟩)
set_option maxHeartbeats 4000000 in
theorem refCheck_7 (a b n : Int) (s t u : List UInt8) (w : World) (hs : s.length ≤ 20000) (ht : t.length ≤ 20000) (hu : u.length ≤ 20000) : Calls Tryz.prog 7 #[.agg (evV 7 a b n s t u)] w fun e w' => e = .returned (.bool ((idB a && (idB b && (mayM n && (neB s && (linkB s && (titleB t && linkB u)))))) && sameB a b n s t u a b n s t u)) ∧ Below w.heap.size w w' := by
  generalize hres : ((idB a && (idB b && (mayM n && (neB s && (linkB s && (titleB t && linkB u)))))) && sameB a b n s t u a b n s t u) = res
  have HB := Lib.hid hres.symm
  clear hres
  unfold evV
  go_enter Tryz.func7, Tryz.ntmps7
  go_wp2_with fail
  (with_reducible refine (refId14_any a _).mono ?_)
  rintro e w1 ⟨rfl, rfl⟩
  generalize hia : idB a = ia at *
  have HIA := Lib.hid hia
  clear hia
  go_upto_region 3 with fail
  go_cut [5] (fun v wx => v = .bool (flagB n) ∧ wx = (w.alloc (.cells (evV 7 a b n s t u) 23)).alloc (.cells (evV 7 a 0 0 [] [] []) 23))
  case first =>
    by_cases hn0 : n = 0
    · have HF : Hid (flagB n = true) := Lib.hid (by unfold flagB; rw [hn0]; rfl)
      have e0 : (n == 0) = true := by simpa using hn0
      clear hn0
      go_wp2_with fail
      go_meet
      exact ⟨by rw [HF.out], rfl⟩
    · have HF : Hid (flagB n = (n == 1)) := Lib.hid (by unfold flagB; rw [show (n == 0) = false by simpa using hn0]; rfl)
      have e0 : (n == 0) = false := by simpa using hn0
      clear hn0
      go_wp2_with fail
      go_meet
      exact ⟨by rw [HF.out], rfl⟩
  case rest =>
    obtain ⟨rfl, rfl⟩ := hcut
    simp only [evV]
    generalize hfl : flagB n = fl at *
    have HFL := Lib.hid hfl
    clear hfl
    go_upto_region 4 with fail
    go_cut [6] (fun v wx => v = .bool (folderB b) ∧ wx = (w.alloc (.cells (evV 7 a b n s t u) 23)).alloc (.cells (evV 7 a 0 0 [] [] []) 23))
    case first =>
      by_cases hb0 : b = 0
      · have HF : Hid (folderB b = true) := Lib.hid (by unfold folderB; rw [hb0]; rfl)
        have e0 : (b == 0) = true := by simpa using hb0
        clear hb0
        go_wp2_with fail
        go_meet
        exact ⟨by rw [HF.out], rfl⟩
      · have HF : Hid (folderB b = idB b) := Lib.hid (by unfold folderB; rw [show (b == 0) = false by simpa using hb0]; rfl)
        have e0 : (b == 0) = false := by simpa using hb0
        clear hb0
        go_wp2_with fail
        (with_reducible refine (refId14_any b _).mono ?_)
        rintro e w1 ⟨rfl, rfl⟩
        go_wp2_with fail
        go_meet
        exact ⟨by rw [HF.out], rfl⟩
    case rest =>
      obtain ⟨rfl, rfl⟩ := hcut
      simp only [evV]
      generalize hff : folderB b = fo at *
      have HFF := Lib.hid hff
      clear hff
      try rw [HIA.out] at HB
      try rw [HFL.out] at HB
      try rw [HFF.out] at HB
      clear HIA HFL HFF
      cases ia with
      | false =>
        simp only [Bool.false_and] at HB
        go_wp2_with fail
        go_ret
        exact ⟨by rw [HB.out]; rfl, bel_alloc (bel_alloc (Below.refl w.heap.size w) _) _⟩
      | true =>
        simp only [Bool.true_and] at HB
        have H1 := Lib.hid (fun W => refId14_any b W)
        cases hc1 : idB b with
        | false =>
          rw [hc1] at HB H1
          simp only [Bool.false_and] at HB
          clear hc1
          go_wp2_with fail
          (with_reducible refine (H1.out _).mono ?_)
          rintro e w1 ⟨rfl, rfl⟩
          go_wp2_with fail
          go_ret
          exact ⟨by rw [HB.out]; rfl, bel_alloc (bel_alloc (Below.refl w.heap.size w) _) _⟩
        | true =>
          rw [hc1] at HB H1
          simp only [Bool.true_and] at HB
          clear hc1
          have H2 := Lib.hid (fun W => refMay4_any n W)
          cases hc2 : mayM n with
          | false =>
            rw [hc2] at HB H2
            simp only [Bool.false_and] at HB
            clear hc2
            go_wp2_with fail
            (with_reducible refine (H1.out _).mono ?_)
            rintro e w1 ⟨rfl, rfl⟩
            go_wp2_with fail
            (with_reducible refine (H2.out _).mono ?_)
            rintro e w2 ⟨rfl, hb2⟩
            have B2 := bel_step (bel_alloc (bel_alloc (Below.refl w.heap.size w) _) _) hb2
            have G2 := hb2
            have c2_0 : w2.cell? ⟨w.heap.size, 0, none⟩ = some (.int .i64 7) := (G2.cell (p := ⟨w.heap.size, 0, none⟩) (by simp; omega)).trans (by simp)
            have c2_1 : w2.cell? ⟨w.heap.size, 1, none⟩ = some (.int .i64 a) := (G2.cell (p := ⟨w.heap.size, 1, none⟩) (by simp; omega)).trans (by simp)
            have c2_2 : w2.cell? ⟨w.heap.size, 2, none⟩ = some (.int .i64 b) := (G2.cell (p := ⟨w.heap.size, 2, none⟩) (by simp; omega)).trans (by simp)
            have c2_3 : w2.cell? ⟨w.heap.size, 3, none⟩ = some (.int .i64 n) := (G2.cell (p := ⟨w.heap.size, 3, none⟩) (by simp; omega)).trans (by simp)
            have c2_4 : w2.cell? ⟨w.heap.size, 4, none⟩ = some (.string ⟨(s : List UInt8).toArray⟩) := (G2.cell (p := ⟨w.heap.size, 4, none⟩) (by simp; omega)).trans (by simp)
            have c2_5 : w2.cell? ⟨w.heap.size, 5, none⟩ = some (.string ⟨(t : List UInt8).toArray⟩) := (G2.cell (p := ⟨w.heap.size, 5, none⟩) (by simp; omega)).trans (by simp)
            have c2_6 : w2.cell? ⟨w.heap.size, 6, none⟩ = some (.string ⟨(u : List UInt8).toArray⟩) := (G2.cell (p := ⟨w.heap.size, 6, none⟩) (by simp; omega)).trans (by simp)
            have d2_0 : w2.cell? ⟨w.heap.size + 1, 0, none⟩ = some (.int .i64 7) := (G2.cell (p := ⟨w.heap.size + 1, 0, none⟩) (by simp)).trans (by simp)
            have d2_1 : w2.cell? ⟨w.heap.size + 1, 1, none⟩ = some (.int .i64 a) := (G2.cell (p := ⟨w.heap.size + 1, 1, none⟩) (by simp)).trans (by simp)
            have d2_2 : w2.cell? ⟨w.heap.size + 1, 2, none⟩ = some (.int .i64 b) := (G2.cell (p := ⟨w.heap.size + 1, 2, none⟩) (by simp)).trans (by simp)
            have d2_3 : w2.cell? ⟨w.heap.size + 1, 3, none⟩ = some (.int .i64 n) := (G2.cell (p := ⟨w.heap.size + 1, 3, none⟩) (by simp)).trans (by simp)
            have d2_4 : w2.cell? ⟨w.heap.size + 1, 4, none⟩ = some (.string ⟨(s : List UInt8).toArray⟩) := (G2.cell (p := ⟨w.heap.size + 1, 4, none⟩) (by simp)).trans (by simp)
            have d2_5 : w2.cell? ⟨w.heap.size + 1, 5, none⟩ = some (.string ⟨(t : List UInt8).toArray⟩) := (G2.cell (p := ⟨w.heap.size + 1, 5, none⟩) (by simp)).trans (by simp)
            have d2_6 : w2.cell? ⟨w.heap.size + 1, 6, none⟩ = some (.string ⟨(u : List UInt8).toArray⟩) := (G2.cell (p := ⟨w.heap.size + 1, 6, none⟩) (by simp)).trans (by simp)
            go_wp2_with fail
            go_ret
            exact ⟨by rw [HB.out]; rfl, B2⟩
          | true =>
            rw [hc2] at HB H2
            simp only [Bool.true_and] at HB
            clear hc2
            cases hc3 : neB s with
            | false =>
              have ne1 : s = [] := by unfold neB at hc3; simpa using hc3
              subst ne1
              rw [hc3] at HB
              simp only [Bool.false_and] at HB
              clear hc3
              go_wp2_with fail
              (with_reducible refine (H1.out _).mono ?_)
              rintro e w1 ⟨rfl, rfl⟩
              go_wp2_with fail
              (with_reducible refine (H2.out _).mono ?_)
              rintro e w2 ⟨rfl, hb2⟩
              have B2 := bel_step (bel_alloc (bel_alloc (Below.refl w.heap.size w) _) _) hb2
              have G2 := hb2
              have c2_0 : w2.cell? ⟨w.heap.size, 0, none⟩ = some (.int .i64 7) := (G2.cell (p := ⟨w.heap.size, 0, none⟩) (by simp; omega)).trans (by simp)
              have c2_1 : w2.cell? ⟨w.heap.size, 1, none⟩ = some (.int .i64 a) := (G2.cell (p := ⟨w.heap.size, 1, none⟩) (by simp; omega)).trans (by simp)
              have c2_2 : w2.cell? ⟨w.heap.size, 2, none⟩ = some (.int .i64 b) := (G2.cell (p := ⟨w.heap.size, 2, none⟩) (by simp; omega)).trans (by simp)
              have c2_3 : w2.cell? ⟨w.heap.size, 3, none⟩ = some (.int .i64 n) := (G2.cell (p := ⟨w.heap.size, 3, none⟩) (by simp; omega)).trans (by simp)
              have c2_4 : w2.cell? ⟨w.heap.size, 4, none⟩ = some (.string ⟨([] : List UInt8).toArray⟩) := (G2.cell (p := ⟨w.heap.size, 4, none⟩) (by simp; omega)).trans (by simp)
              have c2_5 : w2.cell? ⟨w.heap.size, 5, none⟩ = some (.string ⟨(t : List UInt8).toArray⟩) := (G2.cell (p := ⟨w.heap.size, 5, none⟩) (by simp; omega)).trans (by simp)
              have c2_6 : w2.cell? ⟨w.heap.size, 6, none⟩ = some (.string ⟨(u : List UInt8).toArray⟩) := (G2.cell (p := ⟨w.heap.size, 6, none⟩) (by simp; omega)).trans (by simp)
              have d2_0 : w2.cell? ⟨w.heap.size + 1, 0, none⟩ = some (.int .i64 7) := (G2.cell (p := ⟨w.heap.size + 1, 0, none⟩) (by simp)).trans (by simp)
              have d2_1 : w2.cell? ⟨w.heap.size + 1, 1, none⟩ = some (.int .i64 a) := (G2.cell (p := ⟨w.heap.size + 1, 1, none⟩) (by simp)).trans (by simp)
              have d2_2 : w2.cell? ⟨w.heap.size + 1, 2, none⟩ = some (.int .i64 b) := (G2.cell (p := ⟨w.heap.size + 1, 2, none⟩) (by simp)).trans (by simp)
              have d2_3 : w2.cell? ⟨w.heap.size + 1, 3, none⟩ = some (.int .i64 n) := (G2.cell (p := ⟨w.heap.size + 1, 3, none⟩) (by simp)).trans (by simp)
              have d2_4 : w2.cell? ⟨w.heap.size + 1, 4, none⟩ = some (.string ⟨([] : List UInt8).toArray⟩) := (G2.cell (p := ⟨w.heap.size + 1, 4, none⟩) (by simp)).trans (by simp)
              have d2_5 : w2.cell? ⟨w.heap.size + 1, 5, none⟩ = some (.string ⟨(t : List UInt8).toArray⟩) := (G2.cell (p := ⟨w.heap.size + 1, 5, none⟩) (by simp)).trans (by simp)
              have d2_6 : w2.cell? ⟨w.heap.size + 1, 6, none⟩ = some (.string ⟨(u : List UInt8).toArray⟩) := (G2.cell (p := ⟨w.heap.size + 1, 6, none⟩) (by simp)).trans (by simp)
              go_wp2_with fail
              go_ret
              exact ⟨by rw [HB.out]; rfl, B2⟩
            | true =>
              have ne1 : s.isEmpty = false := by unfold neB at hc3; simpa using hc3
              have ne2 : ¬ s = [] := by unfold neB at hc3; simpa using hc3
              rw [hc3] at HB
              simp only [Bool.true_and] at HB
              clear hc3
              have H4 := Lib.hid (fun W => refLink_any s W hs)
              cases hc4 : linkB s with
              | false =>
                rw [hc4] at HB H4
                simp only [Bool.false_and] at HB
                clear hc4
                go_wp2_with fail
                (with_reducible refine (H1.out _).mono ?_)
                rintro e w1 ⟨rfl, rfl⟩
                go_wp2_with fail
                (with_reducible refine (H2.out _).mono ?_)
                rintro e w2 ⟨rfl, hb2⟩
                have B2 := bel_step (bel_alloc (bel_alloc (Below.refl w.heap.size w) _) _) hb2
                have G2 := hb2
                have c2_0 : w2.cell? ⟨w.heap.size, 0, none⟩ = some (.int .i64 7) := (G2.cell (p := ⟨w.heap.size, 0, none⟩) (by simp; omega)).trans (by simp)
                have c2_1 : w2.cell? ⟨w.heap.size, 1, none⟩ = some (.int .i64 a) := (G2.cell (p := ⟨w.heap.size, 1, none⟩) (by simp; omega)).trans (by simp)
                have c2_2 : w2.cell? ⟨w.heap.size, 2, none⟩ = some (.int .i64 b) := (G2.cell (p := ⟨w.heap.size, 2, none⟩) (by simp; omega)).trans (by simp)
                have c2_3 : w2.cell? ⟨w.heap.size, 3, none⟩ = some (.int .i64 n) := (G2.cell (p := ⟨w.heap.size, 3, none⟩) (by simp; omega)).trans (by simp)
                have c2_4 : w2.cell? ⟨w.heap.size, 4, none⟩ = some (.string ⟨(s : List UInt8).toArray⟩) := (G2.cell (p := ⟨w.heap.size, 4, none⟩) (by simp; omega)).trans (by simp)
                have c2_5 : w2.cell? ⟨w.heap.size, 5, none⟩ = some (.string ⟨(t : List UInt8).toArray⟩) := (G2.cell (p := ⟨w.heap.size, 5, none⟩) (by simp; omega)).trans (by simp)
                have c2_6 : w2.cell? ⟨w.heap.size, 6, none⟩ = some (.string ⟨(u : List UInt8).toArray⟩) := (G2.cell (p := ⟨w.heap.size, 6, none⟩) (by simp; omega)).trans (by simp)
                have d2_0 : w2.cell? ⟨w.heap.size + 1, 0, none⟩ = some (.int .i64 7) := (G2.cell (p := ⟨w.heap.size + 1, 0, none⟩) (by simp)).trans (by simp)
                have d2_1 : w2.cell? ⟨w.heap.size + 1, 1, none⟩ = some (.int .i64 a) := (G2.cell (p := ⟨w.heap.size + 1, 1, none⟩) (by simp)).trans (by simp)
                have d2_2 : w2.cell? ⟨w.heap.size + 1, 2, none⟩ = some (.int .i64 b) := (G2.cell (p := ⟨w.heap.size + 1, 2, none⟩) (by simp)).trans (by simp)
                have d2_3 : w2.cell? ⟨w.heap.size + 1, 3, none⟩ = some (.int .i64 n) := (G2.cell (p := ⟨w.heap.size + 1, 3, none⟩) (by simp)).trans (by simp)
                have d2_4 : w2.cell? ⟨w.heap.size + 1, 4, none⟩ = some (.string ⟨(s : List UInt8).toArray⟩) := (G2.cell (p := ⟨w.heap.size + 1, 4, none⟩) (by simp)).trans (by simp)
                have d2_5 : w2.cell? ⟨w.heap.size + 1, 5, none⟩ = some (.string ⟨(t : List UInt8).toArray⟩) := (G2.cell (p := ⟨w.heap.size + 1, 5, none⟩) (by simp)).trans (by simp)
                have d2_6 : w2.cell? ⟨w.heap.size + 1, 6, none⟩ = some (.string ⟨(u : List UInt8).toArray⟩) := (G2.cell (p := ⟨w.heap.size + 1, 6, none⟩) (by simp)).trans (by simp)
                go_wp2_with fail
                (with_reducible refine (H4.out _).mono ?_)
                rintro e w3 ⟨rfl, hb3⟩
                have B3 := bel_step (B2) hb3
                have G3 := bel_step G2 hb3
                have c3_0 : w3.cell? ⟨w.heap.size, 0, none⟩ = some (.int .i64 7) := (G3.cell (p := ⟨w.heap.size, 0, none⟩) (by simp; omega)).trans (by simp)
                have c3_1 : w3.cell? ⟨w.heap.size, 1, none⟩ = some (.int .i64 a) := (G3.cell (p := ⟨w.heap.size, 1, none⟩) (by simp; omega)).trans (by simp)
                have c3_2 : w3.cell? ⟨w.heap.size, 2, none⟩ = some (.int .i64 b) := (G3.cell (p := ⟨w.heap.size, 2, none⟩) (by simp; omega)).trans (by simp)
                have c3_3 : w3.cell? ⟨w.heap.size, 3, none⟩ = some (.int .i64 n) := (G3.cell (p := ⟨w.heap.size, 3, none⟩) (by simp; omega)).trans (by simp)
                have c3_4 : w3.cell? ⟨w.heap.size, 4, none⟩ = some (.string ⟨(s : List UInt8).toArray⟩) := (G3.cell (p := ⟨w.heap.size, 4, none⟩) (by simp; omega)).trans (by simp)
                have c3_5 : w3.cell? ⟨w.heap.size, 5, none⟩ = some (.string ⟨(t : List UInt8).toArray⟩) := (G3.cell (p := ⟨w.heap.size, 5, none⟩) (by simp; omega)).trans (by simp)
                have c3_6 : w3.cell? ⟨w.heap.size, 6, none⟩ = some (.string ⟨(u : List UInt8).toArray⟩) := (G3.cell (p := ⟨w.heap.size, 6, none⟩) (by simp; omega)).trans (by simp)
                have d3_0 : w3.cell? ⟨w.heap.size + 1, 0, none⟩ = some (.int .i64 7) := (G3.cell (p := ⟨w.heap.size + 1, 0, none⟩) (by simp)).trans (by simp)
                have d3_1 : w3.cell? ⟨w.heap.size + 1, 1, none⟩ = some (.int .i64 a) := (G3.cell (p := ⟨w.heap.size + 1, 1, none⟩) (by simp)).trans (by simp)
                have d3_2 : w3.cell? ⟨w.heap.size + 1, 2, none⟩ = some (.int .i64 b) := (G3.cell (p := ⟨w.heap.size + 1, 2, none⟩) (by simp)).trans (by simp)
                have d3_3 : w3.cell? ⟨w.heap.size + 1, 3, none⟩ = some (.int .i64 n) := (G3.cell (p := ⟨w.heap.size + 1, 3, none⟩) (by simp)).trans (by simp)
                have d3_4 : w3.cell? ⟨w.heap.size + 1, 4, none⟩ = some (.string ⟨(s : List UInt8).toArray⟩) := (G3.cell (p := ⟨w.heap.size + 1, 4, none⟩) (by simp)).trans (by simp)
                have d3_5 : w3.cell? ⟨w.heap.size + 1, 5, none⟩ = some (.string ⟨(t : List UInt8).toArray⟩) := (G3.cell (p := ⟨w.heap.size + 1, 5, none⟩) (by simp)).trans (by simp)
                have d3_6 : w3.cell? ⟨w.heap.size + 1, 6, none⟩ = some (.string ⟨(u : List UInt8).toArray⟩) := (G3.cell (p := ⟨w.heap.size + 1, 6, none⟩) (by simp)).trans (by simp)
                go_wp2_with fail
                go_ret
                exact ⟨by rw [HB.out]; rfl, B3⟩
              | true =>
                rw [hc4] at HB H4
                simp only [Bool.true_and] at HB
                clear hc4
                have H5 := Lib.hid (fun W => refTitle_any t W ht)
                cases hc5 : titleB t with
                | false =>
                  rw [hc5] at HB H5
                  simp only [Bool.false_and] at HB
                  clear hc5
                  go_wp2_with fail
                  (with_reducible refine (H1.out _).mono ?_)
                  rintro e w1 ⟨rfl, rfl⟩
                  go_wp2_with fail
                  (with_reducible refine (H2.out _).mono ?_)
                  rintro e w2 ⟨rfl, hb2⟩
                  have B2 := bel_step (bel_alloc (bel_alloc (Below.refl w.heap.size w) _) _) hb2
                  have G2 := hb2
                  have c2_0 : w2.cell? ⟨w.heap.size, 0, none⟩ = some (.int .i64 7) := (G2.cell (p := ⟨w.heap.size, 0, none⟩) (by simp; omega)).trans (by simp)
                  have c2_1 : w2.cell? ⟨w.heap.size, 1, none⟩ = some (.int .i64 a) := (G2.cell (p := ⟨w.heap.size, 1, none⟩) (by simp; omega)).trans (by simp)
                  have c2_2 : w2.cell? ⟨w.heap.size, 2, none⟩ = some (.int .i64 b) := (G2.cell (p := ⟨w.heap.size, 2, none⟩) (by simp; omega)).trans (by simp)
                  have c2_3 : w2.cell? ⟨w.heap.size, 3, none⟩ = some (.int .i64 n) := (G2.cell (p := ⟨w.heap.size, 3, none⟩) (by simp; omega)).trans (by simp)
                  have c2_4 : w2.cell? ⟨w.heap.size, 4, none⟩ = some (.string ⟨(s : List UInt8).toArray⟩) := (G2.cell (p := ⟨w.heap.size, 4, none⟩) (by simp; omega)).trans (by simp)
                  have c2_5 : w2.cell? ⟨w.heap.size, 5, none⟩ = some (.string ⟨(t : List UInt8).toArray⟩) := (G2.cell (p := ⟨w.heap.size, 5, none⟩) (by simp; omega)).trans (by simp)
                  have c2_6 : w2.cell? ⟨w.heap.size, 6, none⟩ = some (.string ⟨(u : List UInt8).toArray⟩) := (G2.cell (p := ⟨w.heap.size, 6, none⟩) (by simp; omega)).trans (by simp)
                  have d2_0 : w2.cell? ⟨w.heap.size + 1, 0, none⟩ = some (.int .i64 7) := (G2.cell (p := ⟨w.heap.size + 1, 0, none⟩) (by simp)).trans (by simp)
                  have d2_1 : w2.cell? ⟨w.heap.size + 1, 1, none⟩ = some (.int .i64 a) := (G2.cell (p := ⟨w.heap.size + 1, 1, none⟩) (by simp)).trans (by simp)
                  have d2_2 : w2.cell? ⟨w.heap.size + 1, 2, none⟩ = some (.int .i64 b) := (G2.cell (p := ⟨w.heap.size + 1, 2, none⟩) (by simp)).trans (by simp)
                  have d2_3 : w2.cell? ⟨w.heap.size + 1, 3, none⟩ = some (.int .i64 n) := (G2.cell (p := ⟨w.heap.size + 1, 3, none⟩) (by simp)).trans (by simp)
                  have d2_4 : w2.cell? ⟨w.heap.size + 1, 4, none⟩ = some (.string ⟨(s : List UInt8).toArray⟩) := (G2.cell (p := ⟨w.heap.size + 1, 4, none⟩) (by simp)).trans (by simp)
                  have d2_5 : w2.cell? ⟨w.heap.size + 1, 5, none⟩ = some (.string ⟨(t : List UInt8).toArray⟩) := (G2.cell (p := ⟨w.heap.size + 1, 5, none⟩) (by simp)).trans (by simp)
                  have d2_6 : w2.cell? ⟨w.heap.size + 1, 6, none⟩ = some (.string ⟨(u : List UInt8).toArray⟩) := (G2.cell (p := ⟨w.heap.size + 1, 6, none⟩) (by simp)).trans (by simp)
                  go_wp2_with fail
                  (with_reducible refine (H4.out _).mono ?_)
                  rintro e w3 ⟨rfl, hb3⟩
                  have B3 := bel_step (B2) hb3
                  have G3 := bel_step G2 hb3
                  have c3_0 : w3.cell? ⟨w.heap.size, 0, none⟩ = some (.int .i64 7) := (G3.cell (p := ⟨w.heap.size, 0, none⟩) (by simp; omega)).trans (by simp)
                  have c3_1 : w3.cell? ⟨w.heap.size, 1, none⟩ = some (.int .i64 a) := (G3.cell (p := ⟨w.heap.size, 1, none⟩) (by simp; omega)).trans (by simp)
                  have c3_2 : w3.cell? ⟨w.heap.size, 2, none⟩ = some (.int .i64 b) := (G3.cell (p := ⟨w.heap.size, 2, none⟩) (by simp; omega)).trans (by simp)
                  have c3_3 : w3.cell? ⟨w.heap.size, 3, none⟩ = some (.int .i64 n) := (G3.cell (p := ⟨w.heap.size, 3, none⟩) (by simp; omega)).trans (by simp)
                  have c3_4 : w3.cell? ⟨w.heap.size, 4, none⟩ = some (.string ⟨(s : List UInt8).toArray⟩) := (G3.cell (p := ⟨w.heap.size, 4, none⟩) (by simp; omega)).trans (by simp)
                  have c3_5 : w3.cell? ⟨w.heap.size, 5, none⟩ = some (.string ⟨(t : List UInt8).toArray⟩) := (G3.cell (p := ⟨w.heap.size, 5, none⟩) (by simp; omega)).trans (by simp)
                  have c3_6 : w3.cell? ⟨w.heap.size, 6, none⟩ = some (.string ⟨(u : List UInt8).toArray⟩) := (G3.cell (p := ⟨w.heap.size, 6, none⟩) (by simp; omega)).trans (by simp)
                  have d3_0 : w3.cell? ⟨w.heap.size + 1, 0, none⟩ = some (.int .i64 7) := (G3.cell (p := ⟨w.heap.size + 1, 0, none⟩) (by simp)).trans (by simp)
                  have d3_1 : w3.cell? ⟨w.heap.size + 1, 1, none⟩ = some (.int .i64 a) := (G3.cell (p := ⟨w.heap.size + 1, 1, none⟩) (by simp)).trans (by simp)
                  have d3_2 : w3.cell? ⟨w.heap.size + 1, 2, none⟩ = some (.int .i64 b) := (G3.cell (p := ⟨w.heap.size + 1, 2, none⟩) (by simp)).trans (by simp)
                  have d3_3 : w3.cell? ⟨w.heap.size + 1, 3, none⟩ = some (.int .i64 n) := (G3.cell (p := ⟨w.heap.size + 1, 3, none⟩) (by simp)).trans (by simp)
                  have d3_4 : w3.cell? ⟨w.heap.size + 1, 4, none⟩ = some (.string ⟨(s : List UInt8).toArray⟩) := (G3.cell (p := ⟨w.heap.size + 1, 4, none⟩) (by simp)).trans (by simp)
                  have d3_5 : w3.cell? ⟨w.heap.size + 1, 5, none⟩ = some (.string ⟨(t : List UInt8).toArray⟩) := (G3.cell (p := ⟨w.heap.size + 1, 5, none⟩) (by simp)).trans (by simp)
                  have d3_6 : w3.cell? ⟨w.heap.size + 1, 6, none⟩ = some (.string ⟨(u : List UInt8).toArray⟩) := (G3.cell (p := ⟨w.heap.size + 1, 6, none⟩) (by simp)).trans (by simp)
                  go_wp2_with fail
                  (with_reducible refine (H5.out _).mono ?_)
                  rintro e w4 ⟨rfl, hb4⟩
                  have B4 := bel_step (B3) hb4
                  have G4 := bel_step G3 hb4
                  have c4_0 : w4.cell? ⟨w.heap.size, 0, none⟩ = some (.int .i64 7) := (G4.cell (p := ⟨w.heap.size, 0, none⟩) (by simp; omega)).trans (by simp)
                  have c4_1 : w4.cell? ⟨w.heap.size, 1, none⟩ = some (.int .i64 a) := (G4.cell (p := ⟨w.heap.size, 1, none⟩) (by simp; omega)).trans (by simp)
                  have c4_2 : w4.cell? ⟨w.heap.size, 2, none⟩ = some (.int .i64 b) := (G4.cell (p := ⟨w.heap.size, 2, none⟩) (by simp; omega)).trans (by simp)
                  have c4_3 : w4.cell? ⟨w.heap.size, 3, none⟩ = some (.int .i64 n) := (G4.cell (p := ⟨w.heap.size, 3, none⟩) (by simp; omega)).trans (by simp)
                  have c4_4 : w4.cell? ⟨w.heap.size, 4, none⟩ = some (.string ⟨(s : List UInt8).toArray⟩) := (G4.cell (p := ⟨w.heap.size, 4, none⟩) (by simp; omega)).trans (by simp)
                  have c4_5 : w4.cell? ⟨w.heap.size, 5, none⟩ = some (.string ⟨(t : List UInt8).toArray⟩) := (G4.cell (p := ⟨w.heap.size, 5, none⟩) (by simp; omega)).trans (by simp)
                  have c4_6 : w4.cell? ⟨w.heap.size, 6, none⟩ = some (.string ⟨(u : List UInt8).toArray⟩) := (G4.cell (p := ⟨w.heap.size, 6, none⟩) (by simp; omega)).trans (by simp)
                  have d4_0 : w4.cell? ⟨w.heap.size + 1, 0, none⟩ = some (.int .i64 7) := (G4.cell (p := ⟨w.heap.size + 1, 0, none⟩) (by simp)).trans (by simp)
                  have d4_1 : w4.cell? ⟨w.heap.size + 1, 1, none⟩ = some (.int .i64 a) := (G4.cell (p := ⟨w.heap.size + 1, 1, none⟩) (by simp)).trans (by simp)
                  have d4_2 : w4.cell? ⟨w.heap.size + 1, 2, none⟩ = some (.int .i64 b) := (G4.cell (p := ⟨w.heap.size + 1, 2, none⟩) (by simp)).trans (by simp)
                  have d4_3 : w4.cell? ⟨w.heap.size + 1, 3, none⟩ = some (.int .i64 n) := (G4.cell (p := ⟨w.heap.size + 1, 3, none⟩) (by simp)).trans (by simp)
                  have d4_4 : w4.cell? ⟨w.heap.size + 1, 4, none⟩ = some (.string ⟨(s : List UInt8).toArray⟩) := (G4.cell (p := ⟨w.heap.size + 1, 4, none⟩) (by simp)).trans (by simp)
                  have d4_5 : w4.cell? ⟨w.heap.size + 1, 5, none⟩ = some (.string ⟨(t : List UInt8).toArray⟩) := (G4.cell (p := ⟨w.heap.size + 1, 5, none⟩) (by simp)).trans (by simp)
                  have d4_6 : w4.cell? ⟨w.heap.size + 1, 6, none⟩ = some (.string ⟨(u : List UInt8).toArray⟩) := (G4.cell (p := ⟨w.heap.size + 1, 6, none⟩) (by simp)).trans (by simp)
                  go_wp2_with fail
                  go_ret
                  exact ⟨by rw [HB.out]; rfl, B4⟩
                | true =>
                  rw [hc5] at HB H5
                  simp only [Bool.true_and] at HB
                  clear hc5
                  have H6 := Lib.hid (fun W => refLink_any u W hu)
                  cases hc6 : linkB u with
                  | false =>
                    rw [hc6] at HB H6
                    simp only [Bool.false_and] at HB
                    clear hc6
                    go_wp2_with fail
                    (with_reducible refine (H1.out _).mono ?_)
                    rintro e w1 ⟨rfl, rfl⟩
                    go_wp2_with fail
                    (with_reducible refine (H2.out _).mono ?_)
                    rintro e w2 ⟨rfl, hb2⟩
                    have B2 := bel_step (bel_alloc (bel_alloc (Below.refl w.heap.size w) _) _) hb2
                    have G2 := hb2
                    have c2_0 : w2.cell? ⟨w.heap.size, 0, none⟩ = some (.int .i64 7) := (G2.cell (p := ⟨w.heap.size, 0, none⟩) (by simp; omega)).trans (by simp)
                    have c2_1 : w2.cell? ⟨w.heap.size, 1, none⟩ = some (.int .i64 a) := (G2.cell (p := ⟨w.heap.size, 1, none⟩) (by simp; omega)).trans (by simp)
                    have c2_2 : w2.cell? ⟨w.heap.size, 2, none⟩ = some (.int .i64 b) := (G2.cell (p := ⟨w.heap.size, 2, none⟩) (by simp; omega)).trans (by simp)
                    have c2_3 : w2.cell? ⟨w.heap.size, 3, none⟩ = some (.int .i64 n) := (G2.cell (p := ⟨w.heap.size, 3, none⟩) (by simp; omega)).trans (by simp)
                    have c2_4 : w2.cell? ⟨w.heap.size, 4, none⟩ = some (.string ⟨(s : List UInt8).toArray⟩) := (G2.cell (p := ⟨w.heap.size, 4, none⟩) (by simp; omega)).trans (by simp)
                    have c2_5 : w2.cell? ⟨w.heap.size, 5, none⟩ = some (.string ⟨(t : List UInt8).toArray⟩) := (G2.cell (p := ⟨w.heap.size, 5, none⟩) (by simp; omega)).trans (by simp)
                    have c2_6 : w2.cell? ⟨w.heap.size, 6, none⟩ = some (.string ⟨(u : List UInt8).toArray⟩) := (G2.cell (p := ⟨w.heap.size, 6, none⟩) (by simp; omega)).trans (by simp)
                    have d2_0 : w2.cell? ⟨w.heap.size + 1, 0, none⟩ = some (.int .i64 7) := (G2.cell (p := ⟨w.heap.size + 1, 0, none⟩) (by simp)).trans (by simp)
                    have d2_1 : w2.cell? ⟨w.heap.size + 1, 1, none⟩ = some (.int .i64 a) := (G2.cell (p := ⟨w.heap.size + 1, 1, none⟩) (by simp)).trans (by simp)
                    have d2_2 : w2.cell? ⟨w.heap.size + 1, 2, none⟩ = some (.int .i64 b) := (G2.cell (p := ⟨w.heap.size + 1, 2, none⟩) (by simp)).trans (by simp)
                    have d2_3 : w2.cell? ⟨w.heap.size + 1, 3, none⟩ = some (.int .i64 n) := (G2.cell (p := ⟨w.heap.size + 1, 3, none⟩) (by simp)).trans (by simp)
                    have d2_4 : w2.cell? ⟨w.heap.size + 1, 4, none⟩ = some (.string ⟨(s : List UInt8).toArray⟩) := (G2.cell (p := ⟨w.heap.size + 1, 4, none⟩) (by simp)).trans (by simp)
                    have d2_5 : w2.cell? ⟨w.heap.size + 1, 5, none⟩ = some (.string ⟨(t : List UInt8).toArray⟩) := (G2.cell (p := ⟨w.heap.size + 1, 5, none⟩) (by simp)).trans (by simp)
                    have d2_6 : w2.cell? ⟨w.heap.size + 1, 6, none⟩ = some (.string ⟨(u : List UInt8).toArray⟩) := (G2.cell (p := ⟨w.heap.size + 1, 6, none⟩) (by simp)).trans (by simp)
                    go_wp2_with fail
                    (with_reducible refine (H4.out _).mono ?_)
                    rintro e w3 ⟨rfl, hb3⟩
                    have B3 := bel_step (B2) hb3
                    have G3 := bel_step G2 hb3
                    have c3_0 : w3.cell? ⟨w.heap.size, 0, none⟩ = some (.int .i64 7) := (G3.cell (p := ⟨w.heap.size, 0, none⟩) (by simp; omega)).trans (by simp)
                    have c3_1 : w3.cell? ⟨w.heap.size, 1, none⟩ = some (.int .i64 a) := (G3.cell (p := ⟨w.heap.size, 1, none⟩) (by simp; omega)).trans (by simp)
                    have c3_2 : w3.cell? ⟨w.heap.size, 2, none⟩ = some (.int .i64 b) := (G3.cell (p := ⟨w.heap.size, 2, none⟩) (by simp; omega)).trans (by simp)
                    have c3_3 : w3.cell? ⟨w.heap.size, 3, none⟩ = some (.int .i64 n) := (G3.cell (p := ⟨w.heap.size, 3, none⟩) (by simp; omega)).trans (by simp)
                    have c3_4 : w3.cell? ⟨w.heap.size, 4, none⟩ = some (.string ⟨(s : List UInt8).toArray⟩) := (G3.cell (p := ⟨w.heap.size, 4, none⟩) (by simp; omega)).trans (by simp)
                    have c3_5 : w3.cell? ⟨w.heap.size, 5, none⟩ = some (.string ⟨(t : List UInt8).toArray⟩) := (G3.cell (p := ⟨w.heap.size, 5, none⟩) (by simp; omega)).trans (by simp)
                    have c3_6 : w3.cell? ⟨w.heap.size, 6, none⟩ = some (.string ⟨(u : List UInt8).toArray⟩) := (G3.cell (p := ⟨w.heap.size, 6, none⟩) (by simp; omega)).trans (by simp)
                    have d3_0 : w3.cell? ⟨w.heap.size + 1, 0, none⟩ = some (.int .i64 7) := (G3.cell (p := ⟨w.heap.size + 1, 0, none⟩) (by simp)).trans (by simp)
                    have d3_1 : w3.cell? ⟨w.heap.size + 1, 1, none⟩ = some (.int .i64 a) := (G3.cell (p := ⟨w.heap.size + 1, 1, none⟩) (by simp)).trans (by simp)
                    have d3_2 : w3.cell? ⟨w.heap.size + 1, 2, none⟩ = some (.int .i64 b) := (G3.cell (p := ⟨w.heap.size + 1, 2, none⟩) (by simp)).trans (by simp)
                    have d3_3 : w3.cell? ⟨w.heap.size + 1, 3, none⟩ = some (.int .i64 n) := (G3.cell (p := ⟨w.heap.size + 1, 3, none⟩) (by simp)).trans (by simp)
                    have d3_4 : w3.cell? ⟨w.heap.size + 1, 4, none⟩ = some (.string ⟨(s : List UInt8).toArray⟩) := (G3.cell (p := ⟨w.heap.size + 1, 4, none⟩) (by simp)).trans (by simp)
                    have d3_5 : w3.cell? ⟨w.heap.size + 1, 5, none⟩ = some (.string ⟨(t : List UInt8).toArray⟩) := (G3.cell (p := ⟨w.heap.size + 1, 5, none⟩) (by simp)).trans (by simp)
                    have d3_6 : w3.cell? ⟨w.heap.size + 1, 6, none⟩ = some (.string ⟨(u : List UInt8).toArray⟩) := (G3.cell (p := ⟨w.heap.size + 1, 6, none⟩) (by simp)).trans (by simp)
                    go_wp2_with fail
                    (with_reducible refine (H5.out _).mono ?_)
                    rintro e w4 ⟨rfl, hb4⟩
                    have B4 := bel_step (B3) hb4
                    have G4 := bel_step G3 hb4
                    have c4_0 : w4.cell? ⟨w.heap.size, 0, none⟩ = some (.int .i64 7) := (G4.cell (p := ⟨w.heap.size, 0, none⟩) (by simp; omega)).trans (by simp)
                    have c4_1 : w4.cell? ⟨w.heap.size, 1, none⟩ = some (.int .i64 a) := (G4.cell (p := ⟨w.heap.size, 1, none⟩) (by simp; omega)).trans (by simp)
                    have c4_2 : w4.cell? ⟨w.heap.size, 2, none⟩ = some (.int .i64 b) := (G4.cell (p := ⟨w.heap.size, 2, none⟩) (by simp; omega)).trans (by simp)
                    have c4_3 : w4.cell? ⟨w.heap.size, 3, none⟩ = some (.int .i64 n) := (G4.cell (p := ⟨w.heap.size, 3, none⟩) (by simp; omega)).trans (by simp)
                    have c4_4 : w4.cell? ⟨w.heap.size, 4, none⟩ = some (.string ⟨(s : List UInt8).toArray⟩) := (G4.cell (p := ⟨w.heap.size, 4, none⟩) (by simp; omega)).trans (by simp)
                    have c4_5 : w4.cell? ⟨w.heap.size, 5, none⟩ = some (.string ⟨(t : List UInt8).toArray⟩) := (G4.cell (p := ⟨w.heap.size, 5, none⟩) (by simp; omega)).trans (by simp)
                    have c4_6 : w4.cell? ⟨w.heap.size, 6, none⟩ = some (.string ⟨(u : List UInt8).toArray⟩) := (G4.cell (p := ⟨w.heap.size, 6, none⟩) (by simp; omega)).trans (by simp)
                    have d4_0 : w4.cell? ⟨w.heap.size + 1, 0, none⟩ = some (.int .i64 7) := (G4.cell (p := ⟨w.heap.size + 1, 0, none⟩) (by simp)).trans (by simp)
                    have d4_1 : w4.cell? ⟨w.heap.size + 1, 1, none⟩ = some (.int .i64 a) := (G4.cell (p := ⟨w.heap.size + 1, 1, none⟩) (by simp)).trans (by simp)
                    have d4_2 : w4.cell? ⟨w.heap.size + 1, 2, none⟩ = some (.int .i64 b) := (G4.cell (p := ⟨w.heap.size + 1, 2, none⟩) (by simp)).trans (by simp)
                    have d4_3 : w4.cell? ⟨w.heap.size + 1, 3, none⟩ = some (.int .i64 n) := (G4.cell (p := ⟨w.heap.size + 1, 3, none⟩) (by simp)).trans (by simp)
                    have d4_4 : w4.cell? ⟨w.heap.size + 1, 4, none⟩ = some (.string ⟨(s : List UInt8).toArray⟩) := (G4.cell (p := ⟨w.heap.size + 1, 4, none⟩) (by simp)).trans (by simp)
                    have d4_5 : w4.cell? ⟨w.heap.size + 1, 5, none⟩ = some (.string ⟨(t : List UInt8).toArray⟩) := (G4.cell (p := ⟨w.heap.size + 1, 5, none⟩) (by simp)).trans (by simp)
                    have d4_6 : w4.cell? ⟨w.heap.size + 1, 6, none⟩ = some (.string ⟨(u : List UInt8).toArray⟩) := (G4.cell (p := ⟨w.heap.size + 1, 6, none⟩) (by simp)).trans (by simp)
                    go_wp2_with fail
                    (with_reducible refine (H6.out _).mono ?_)
                    rintro e w5 ⟨rfl, hb5⟩
                    have B5 := bel_step (B4) hb5
                    have G5 := bel_step G4 hb5
                    have c5_0 : w5.cell? ⟨w.heap.size, 0, none⟩ = some (.int .i64 7) := (G5.cell (p := ⟨w.heap.size, 0, none⟩) (by simp; omega)).trans (by simp)
                    have c5_1 : w5.cell? ⟨w.heap.size, 1, none⟩ = some (.int .i64 a) := (G5.cell (p := ⟨w.heap.size, 1, none⟩) (by simp; omega)).trans (by simp)
                    have c5_2 : w5.cell? ⟨w.heap.size, 2, none⟩ = some (.int .i64 b) := (G5.cell (p := ⟨w.heap.size, 2, none⟩) (by simp; omega)).trans (by simp)
                    have c5_3 : w5.cell? ⟨w.heap.size, 3, none⟩ = some (.int .i64 n) := (G5.cell (p := ⟨w.heap.size, 3, none⟩) (by simp; omega)).trans (by simp)
                    have c5_4 : w5.cell? ⟨w.heap.size, 4, none⟩ = some (.string ⟨(s : List UInt8).toArray⟩) := (G5.cell (p := ⟨w.heap.size, 4, none⟩) (by simp; omega)).trans (by simp)
                    have c5_5 : w5.cell? ⟨w.heap.size, 5, none⟩ = some (.string ⟨(t : List UInt8).toArray⟩) := (G5.cell (p := ⟨w.heap.size, 5, none⟩) (by simp; omega)).trans (by simp)
                    have c5_6 : w5.cell? ⟨w.heap.size, 6, none⟩ = some (.string ⟨(u : List UInt8).toArray⟩) := (G5.cell (p := ⟨w.heap.size, 6, none⟩) (by simp; omega)).trans (by simp)
                    have d5_0 : w5.cell? ⟨w.heap.size + 1, 0, none⟩ = some (.int .i64 7) := (G5.cell (p := ⟨w.heap.size + 1, 0, none⟩) (by simp)).trans (by simp)
                    have d5_1 : w5.cell? ⟨w.heap.size + 1, 1, none⟩ = some (.int .i64 a) := (G5.cell (p := ⟨w.heap.size + 1, 1, none⟩) (by simp)).trans (by simp)
                    have d5_2 : w5.cell? ⟨w.heap.size + 1, 2, none⟩ = some (.int .i64 b) := (G5.cell (p := ⟨w.heap.size + 1, 2, none⟩) (by simp)).trans (by simp)
                    have d5_3 : w5.cell? ⟨w.heap.size + 1, 3, none⟩ = some (.int .i64 n) := (G5.cell (p := ⟨w.heap.size + 1, 3, none⟩) (by simp)).trans (by simp)
                    have d5_4 : w5.cell? ⟨w.heap.size + 1, 4, none⟩ = some (.string ⟨(s : List UInt8).toArray⟩) := (G5.cell (p := ⟨w.heap.size + 1, 4, none⟩) (by simp)).trans (by simp)
                    have d5_5 : w5.cell? ⟨w.heap.size + 1, 5, none⟩ = some (.string ⟨(t : List UInt8).toArray⟩) := (G5.cell (p := ⟨w.heap.size + 1, 5, none⟩) (by simp)).trans (by simp)
                    have d5_6 : w5.cell? ⟨w.heap.size + 1, 6, none⟩ = some (.string ⟨(u : List UInt8).toArray⟩) := (G5.cell (p := ⟨w.heap.size + 1, 6, none⟩) (by simp)).trans (by simp)
                    go_wp2_with fail
                    go_ret
                    exact ⟨by rw [HB.out]; rfl, B5⟩
                  | true =>
                    rw [hc6] at HB H6
                    simp only [Bool.true_and] at HB
                    clear hc6
                    go_wp2_with fail
                    (with_reducible refine (H1.out _).mono ?_)
                    rintro e w1 ⟨rfl, rfl⟩
                    go_wp2_with fail
                    (with_reducible refine (H2.out _).mono ?_)
                    rintro e w2 ⟨rfl, hb2⟩
                    have B2 := bel_step (bel_alloc (bel_alloc (Below.refl w.heap.size w) _) _) hb2
                    have G2 := hb2
                    have c2_0 : w2.cell? ⟨w.heap.size, 0, none⟩ = some (.int .i64 7) := (G2.cell (p := ⟨w.heap.size, 0, none⟩) (by simp; omega)).trans (by simp)
                    have c2_1 : w2.cell? ⟨w.heap.size, 1, none⟩ = some (.int .i64 a) := (G2.cell (p := ⟨w.heap.size, 1, none⟩) (by simp; omega)).trans (by simp)
                    have c2_2 : w2.cell? ⟨w.heap.size, 2, none⟩ = some (.int .i64 b) := (G2.cell (p := ⟨w.heap.size, 2, none⟩) (by simp; omega)).trans (by simp)
                    have c2_3 : w2.cell? ⟨w.heap.size, 3, none⟩ = some (.int .i64 n) := (G2.cell (p := ⟨w.heap.size, 3, none⟩) (by simp; omega)).trans (by simp)
                    have c2_4 : w2.cell? ⟨w.heap.size, 4, none⟩ = some (.string ⟨(s : List UInt8).toArray⟩) := (G2.cell (p := ⟨w.heap.size, 4, none⟩) (by simp; omega)).trans (by simp)
                    have c2_5 : w2.cell? ⟨w.heap.size, 5, none⟩ = some (.string ⟨(t : List UInt8).toArray⟩) := (G2.cell (p := ⟨w.heap.size, 5, none⟩) (by simp; omega)).trans (by simp)
                    have c2_6 : w2.cell? ⟨w.heap.size, 6, none⟩ = some (.string ⟨(u : List UInt8).toArray⟩) := (G2.cell (p := ⟨w.heap.size, 6, none⟩) (by simp; omega)).trans (by simp)
                    have d2_0 : w2.cell? ⟨w.heap.size + 1, 0, none⟩ = some (.int .i64 7) := (G2.cell (p := ⟨w.heap.size + 1, 0, none⟩) (by simp)).trans (by simp)
                    have d2_1 : w2.cell? ⟨w.heap.size + 1, 1, none⟩ = some (.int .i64 a) := (G2.cell (p := ⟨w.heap.size + 1, 1, none⟩) (by simp)).trans (by simp)
                    have d2_2 : w2.cell? ⟨w.heap.size + 1, 2, none⟩ = some (.int .i64 b) := (G2.cell (p := ⟨w.heap.size + 1, 2, none⟩) (by simp)).trans (by simp)
                    have d2_3 : w2.cell? ⟨w.heap.size + 1, 3, none⟩ = some (.int .i64 n) := (G2.cell (p := ⟨w.heap.size + 1, 3, none⟩) (by simp)).trans (by simp)
                    have d2_4 : w2.cell? ⟨w.heap.size + 1, 4, none⟩ = some (.string ⟨(s : List UInt8).toArray⟩) := (G2.cell (p := ⟨w.heap.size + 1, 4, none⟩) (by simp)).trans (by simp)
                    have d2_5 : w2.cell? ⟨w.heap.size + 1, 5, none⟩ = some (.string ⟨(t : List UInt8).toArray⟩) := (G2.cell (p := ⟨w.heap.size + 1, 5, none⟩) (by simp)).trans (by simp)
                    have d2_6 : w2.cell? ⟨w.heap.size + 1, 6, none⟩ = some (.string ⟨(u : List UInt8).toArray⟩) := (G2.cell (p := ⟨w.heap.size + 1, 6, none⟩) (by simp)).trans (by simp)
                    go_wp2_with fail
                    (with_reducible refine (H4.out _).mono ?_)
                    rintro e w3 ⟨rfl, hb3⟩
                    have B3 := bel_step (B2) hb3
                    have G3 := bel_step G2 hb3
                    have c3_0 : w3.cell? ⟨w.heap.size, 0, none⟩ = some (.int .i64 7) := (G3.cell (p := ⟨w.heap.size, 0, none⟩) (by simp; omega)).trans (by simp)
                    have c3_1 : w3.cell? ⟨w.heap.size, 1, none⟩ = some (.int .i64 a) := (G3.cell (p := ⟨w.heap.size, 1, none⟩) (by simp; omega)).trans (by simp)
                    have c3_2 : w3.cell? ⟨w.heap.size, 2, none⟩ = some (.int .i64 b) := (G3.cell (p := ⟨w.heap.size, 2, none⟩) (by simp; omega)).trans (by simp)
                    have c3_3 : w3.cell? ⟨w.heap.size, 3, none⟩ = some (.int .i64 n) := (G3.cell (p := ⟨w.heap.size, 3, none⟩) (by simp; omega)).trans (by simp)
                    have c3_4 : w3.cell? ⟨w.heap.size, 4, none⟩ = some (.string ⟨(s : List UInt8).toArray⟩) := (G3.cell (p := ⟨w.heap.size, 4, none⟩) (by simp; omega)).trans (by simp)
                    have c3_5 : w3.cell? ⟨w.heap.size, 5, none⟩ = some (.string ⟨(t : List UInt8).toArray⟩) := (G3.cell (p := ⟨w.heap.size, 5, none⟩) (by simp; omega)).trans (by simp)
                    have c3_6 : w3.cell? ⟨w.heap.size, 6, none⟩ = some (.string ⟨(u : List UInt8).toArray⟩) := (G3.cell (p := ⟨w.heap.size, 6, none⟩) (by simp; omega)).trans (by simp)
                    have d3_0 : w3.cell? ⟨w.heap.size + 1, 0, none⟩ = some (.int .i64 7) := (G3.cell (p := ⟨w.heap.size + 1, 0, none⟩) (by simp)).trans (by simp)
                    have d3_1 : w3.cell? ⟨w.heap.size + 1, 1, none⟩ = some (.int .i64 a) := (G3.cell (p := ⟨w.heap.size + 1, 1, none⟩) (by simp)).trans (by simp)
                    have d3_2 : w3.cell? ⟨w.heap.size + 1, 2, none⟩ = some (.int .i64 b) := (G3.cell (p := ⟨w.heap.size + 1, 2, none⟩) (by simp)).trans (by simp)
                    have d3_3 : w3.cell? ⟨w.heap.size + 1, 3, none⟩ = some (.int .i64 n) := (G3.cell (p := ⟨w.heap.size + 1, 3, none⟩) (by simp)).trans (by simp)
                    have d3_4 : w3.cell? ⟨w.heap.size + 1, 4, none⟩ = some (.string ⟨(s : List UInt8).toArray⟩) := (G3.cell (p := ⟨w.heap.size + 1, 4, none⟩) (by simp)).trans (by simp)
                    have d3_5 : w3.cell? ⟨w.heap.size + 1, 5, none⟩ = some (.string ⟨(t : List UInt8).toArray⟩) := (G3.cell (p := ⟨w.heap.size + 1, 5, none⟩) (by simp)).trans (by simp)
                    have d3_6 : w3.cell? ⟨w.heap.size + 1, 6, none⟩ = some (.string ⟨(u : List UInt8).toArray⟩) := (G3.cell (p := ⟨w.heap.size + 1, 6, none⟩) (by simp)).trans (by simp)
                    go_wp2_with fail
                    (with_reducible refine (H5.out _).mono ?_)
                    rintro e w4 ⟨rfl, hb4⟩
                    have B4 := bel_step (B3) hb4
                    have G4 := bel_step G3 hb4
                    have c4_0 : w4.cell? ⟨w.heap.size, 0, none⟩ = some (.int .i64 7) := (G4.cell (p := ⟨w.heap.size, 0, none⟩) (by simp; omega)).trans (by simp)
                    have c4_1 : w4.cell? ⟨w.heap.size, 1, none⟩ = some (.int .i64 a) := (G4.cell (p := ⟨w.heap.size, 1, none⟩) (by simp; omega)).trans (by simp)
                    have c4_2 : w4.cell? ⟨w.heap.size, 2, none⟩ = some (.int .i64 b) := (G4.cell (p := ⟨w.heap.size, 2, none⟩) (by simp; omega)).trans (by simp)
                    have c4_3 : w4.cell? ⟨w.heap.size, 3, none⟩ = some (.int .i64 n) := (G4.cell (p := ⟨w.heap.size, 3, none⟩) (by simp; omega)).trans (by simp)
                    have c4_4 : w4.cell? ⟨w.heap.size, 4, none⟩ = some (.string ⟨(s : List UInt8).toArray⟩) := (G4.cell (p := ⟨w.heap.size, 4, none⟩) (by simp; omega)).trans (by simp)
                    have c4_5 : w4.cell? ⟨w.heap.size, 5, none⟩ = some (.string ⟨(t : List UInt8).toArray⟩) := (G4.cell (p := ⟨w.heap.size, 5, none⟩) (by simp; omega)).trans (by simp)
                    have c4_6 : w4.cell? ⟨w.heap.size, 6, none⟩ = some (.string ⟨(u : List UInt8).toArray⟩) := (G4.cell (p := ⟨w.heap.size, 6, none⟩) (by simp; omega)).trans (by simp)
                    have d4_0 : w4.cell? ⟨w.heap.size + 1, 0, none⟩ = some (.int .i64 7) := (G4.cell (p := ⟨w.heap.size + 1, 0, none⟩) (by simp)).trans (by simp)
                    have d4_1 : w4.cell? ⟨w.heap.size + 1, 1, none⟩ = some (.int .i64 a) := (G4.cell (p := ⟨w.heap.size + 1, 1, none⟩) (by simp)).trans (by simp)
                    have d4_2 : w4.cell? ⟨w.heap.size + 1, 2, none⟩ = some (.int .i64 b) := (G4.cell (p := ⟨w.heap.size + 1, 2, none⟩) (by simp)).trans (by simp)
                    have d4_3 : w4.cell? ⟨w.heap.size + 1, 3, none⟩ = some (.int .i64 n) := (G4.cell (p := ⟨w.heap.size + 1, 3, none⟩) (by simp)).trans (by simp)
                    have d4_4 : w4.cell? ⟨w.heap.size + 1, 4, none⟩ = some (.string ⟨(s : List UInt8).toArray⟩) := (G4.cell (p := ⟨w.heap.size + 1, 4, none⟩) (by simp)).trans (by simp)
                    have d4_5 : w4.cell? ⟨w.heap.size + 1, 5, none⟩ = some (.string ⟨(t : List UInt8).toArray⟩) := (G4.cell (p := ⟨w.heap.size + 1, 5, none⟩) (by simp)).trans (by simp)
                    have d4_6 : w4.cell? ⟨w.heap.size + 1, 6, none⟩ = some (.string ⟨(u : List UInt8).toArray⟩) := (G4.cell (p := ⟨w.heap.size + 1, 6, none⟩) (by simp)).trans (by simp)
                    go_wp2_with fail
                    (with_reducible refine (H6.out _).mono ?_)
                    rintro e w5 ⟨rfl, hb5⟩
                    have B5 := bel_step (B4) hb5
                    have G5 := bel_step G4 hb5
                    have c5_0 : w5.cell? ⟨w.heap.size, 0, none⟩ = some (.int .i64 7) := (G5.cell (p := ⟨w.heap.size, 0, none⟩) (by simp; omega)).trans (by simp)
                    have c5_1 : w5.cell? ⟨w.heap.size, 1, none⟩ = some (.int .i64 a) := (G5.cell (p := ⟨w.heap.size, 1, none⟩) (by simp; omega)).trans (by simp)
                    have c5_2 : w5.cell? ⟨w.heap.size, 2, none⟩ = some (.int .i64 b) := (G5.cell (p := ⟨w.heap.size, 2, none⟩) (by simp; omega)).trans (by simp)
                    have c5_3 : w5.cell? ⟨w.heap.size, 3, none⟩ = some (.int .i64 n) := (G5.cell (p := ⟨w.heap.size, 3, none⟩) (by simp; omega)).trans (by simp)
                    have c5_4 : w5.cell? ⟨w.heap.size, 4, none⟩ = some (.string ⟨(s : List UInt8).toArray⟩) := (G5.cell (p := ⟨w.heap.size, 4, none⟩) (by simp; omega)).trans (by simp)
                    have c5_5 : w5.cell? ⟨w.heap.size, 5, none⟩ = some (.string ⟨(t : List UInt8).toArray⟩) := (G5.cell (p := ⟨w.heap.size, 5, none⟩) (by simp; omega)).trans (by simp)
                    have c5_6 : w5.cell? ⟨w.heap.size, 6, none⟩ = some (.string ⟨(u : List UInt8).toArray⟩) := (G5.cell (p := ⟨w.heap.size, 6, none⟩) (by simp; omega)).trans (by simp)
                    have d5_0 : w5.cell? ⟨w.heap.size + 1, 0, none⟩ = some (.int .i64 7) := (G5.cell (p := ⟨w.heap.size + 1, 0, none⟩) (by simp)).trans (by simp)
                    have d5_1 : w5.cell? ⟨w.heap.size + 1, 1, none⟩ = some (.int .i64 a) := (G5.cell (p := ⟨w.heap.size + 1, 1, none⟩) (by simp)).trans (by simp)
                    have d5_2 : w5.cell? ⟨w.heap.size + 1, 2, none⟩ = some (.int .i64 b) := (G5.cell (p := ⟨w.heap.size + 1, 2, none⟩) (by simp)).trans (by simp)
                    have d5_3 : w5.cell? ⟨w.heap.size + 1, 3, none⟩ = some (.int .i64 n) := (G5.cell (p := ⟨w.heap.size + 1, 3, none⟩) (by simp)).trans (by simp)
                    have d5_4 : w5.cell? ⟨w.heap.size + 1, 4, none⟩ = some (.string ⟨(s : List UInt8).toArray⟩) := (G5.cell (p := ⟨w.heap.size + 1, 4, none⟩) (by simp)).trans (by simp)
                    have d5_5 : w5.cell? ⟨w.heap.size + 1, 5, none⟩ = some (.string ⟨(t : List UInt8).toArray⟩) := (G5.cell (p := ⟨w.heap.size + 1, 5, none⟩) (by simp)).trans (by simp)
                    have d5_6 : w5.cell? ⟨w.heap.size + 1, 6, none⟩ = some (.string ⟨(u : List UInt8).toArray⟩) := (G5.cell (p := ⟨w.heap.size + 1, 6, none⟩) (by simp)).trans (by simp)
                    go_wp2_with fail
                    all_goals (go_ret; exact ⟨by rw [HB.out]; simp_all [sameB], B5⟩)
end Go.Proofs.YtchcedoaiihnmaaGreatDoor
