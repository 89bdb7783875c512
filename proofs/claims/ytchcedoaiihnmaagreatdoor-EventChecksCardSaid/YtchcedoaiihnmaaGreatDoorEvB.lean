/-
  event.right: may what a kind uses be?
-/
import Derived.Test.YtchcedoaiihnmaaGreatDoorEvA
import Derived.Deep.DeepCutAuto
namespace Go.Proofs.YtchcedoaiihnmaaGreatDoor
open Go.RowKit Go.Nst
set_option maxRecDepth 100000
set_option linter.unusedVariables false
set_option linter.unusedSimpArgs false

structure Ev where
  k : Int
  a : Int
  b : Int
  n : Int
  s : List UInt8
  t : List UInt8
  u : List UInt8
deriving DecidableEq
def evV (k a b n : Int) (s t u : List UInt8) : Array Value := #[.int .i64 k, .int .i64 a, .int .i64 b, .int .i64 n, .string ⟨s.toArray⟩, .string ⟨t.toArray⟩, .string ⟨u.toArray⟩]
def folderB (b : Int) : Bool := b == 0 || idB b
def flagB (n : Int) : Bool := n == 0 || n == 1
def rightB (k a b n : Int) (s t u : List UInt8) : Bool :=
  if k = 1 then idB a && (folderB b && (labelB s))
  else if k = 2 then idB a
  else if k = 3 then idB a && (folderB b && (placeB s && (titleB t)))
  else if k = 4 then idB a
  else if k = 5 then idB a && (titleB t)
  else if k = 6 then idB a && (folderB b)
  else if k = 7 then idB a && (idB b && (mayM n && (placeB s && (titleB t && (linkB u)))))
  else if k = 8 then idB a && (flagB n)
  else if k = 9 then idB a && (flagB n)
  else if k = 10 then idB a && (flagB n && (tagB s))
  else if k = 11 then idB a && (labelB s && (queryB t))
  else if k = 12 then idB a
  else if k = 13 then mayM n
  else false
theorem rightB_1 (a b n : Int) (s t u : List UInt8) : rightB 1 a b n s t u = (idB a && (folderB b && (labelB s))) := rfl
theorem rightB_2 (a b n : Int) (s t u : List UInt8) : rightB 2 a b n s t u = (idB a) := rfl
theorem rightB_3 (a b n : Int) (s t u : List UInt8) : rightB 3 a b n s t u = (idB a && (folderB b && (placeB s && (titleB t)))) := rfl
theorem rightB_4 (a b n : Int) (s t u : List UInt8) : rightB 4 a b n s t u = (idB a) := rfl
theorem rightB_5 (a b n : Int) (s t u : List UInt8) : rightB 5 a b n s t u = (idB a && (titleB t)) := rfl
theorem rightB_6 (a b n : Int) (s t u : List UInt8) : rightB 6 a b n s t u = (idB a && (folderB b)) := rfl
theorem rightB_7 (a b n : Int) (s t u : List UInt8) : rightB 7 a b n s t u = (idB a && (idB b && (mayM n && (placeB s && (titleB t && (linkB u)))))) := rfl
theorem rightB_8 (a b n : Int) (s t u : List UInt8) : rightB 8 a b n s t u = (idB a && (flagB n)) := rfl
theorem rightB_9 (a b n : Int) (s t u : List UInt8) : rightB 9 a b n s t u = (idB a && (flagB n)) := rfl
theorem rightB_10 (a b n : Int) (s t u : List UInt8) : rightB 10 a b n s t u = (idB a && (flagB n && (tagB s))) := rfl
theorem rightB_11 (a b n : Int) (s t u : List UInt8) : rightB 11 a b n s t u = (idB a && (labelB s && (queryB t))) := rfl
theorem rightB_12 (a b n : Int) (s t u : List UInt8) : rightB 12 a b n s t u = (idB a) := rfl
theorem rightB_13 (a b n : Int) (s t u : List UInt8) : rightB 13 a b n s t u = (mayM n) := rfl
set_option maxHeartbeats 4000000 in
theorem right_1 (a b n : Int) (s t u : List UInt8) (w : World) (hs : s.length ≤ 20000) (ht : t.length ≤ 20000) (hu : u.length ≤ 20000) : Calls Tryz.prog 27 #[.agg (evV 1 a b n s t u)] w fun e w' => e = .returned (.bool (rightB 1 a b n s t u)) ∧ Below w.heap.size w w' := by
  have HB := Lib.hid (rightB_1 a b n s t u)
  generalize rightB 1 a b n s t u = res at *
  unfold evV
  go_enter Tryz.func27, Tryz.ntmps27
  go_upto_region 1 with fail
  go_cut [3] (fun v wx => v = .bool (folderB b) ∧ wx = w.alloc (.cells (evV 1 a b n s t u) 23))
  case first =>
    by_cases hb0 : b = 0
    · have HF : Hid (folderB b = true) := Lib.hid (by unfold folderB; rw [hb0]; rfl)
      have e0 : (b == 0) = true := by simpa using hb0
      clear hb0
      go_wp2_with fail
      go_meet
      exact ⟨by rw [HF.out], rfl⟩
    · have HF : Hid (folderB b = idB b) := Lib.hid (by unfold folderB; rw [show (b == 0) = false by simpa using hb0]; rfl)
      have e0 : (b == 0) = false := by simpa using hb0
      clear hb0
      go_wp2_with fail
      (with_reducible refine (id14_any b _).mono ?_)
      rintro e w1 ⟨rfl, rfl⟩
      go_wp2_with fail
      go_meet
      exact ⟨by rw [HF.out], rfl⟩
  case rest =>
    obtain ⟨rfl, rfl⟩ := hcut
    simp only [evV]
    generalize hff : folderB b = fo at *
    have HFF := Lib.hid hff
    clear hff
    go_upto_region 2 with fail
    go_cut [4] (fun v wx => v = .bool (flagB n) ∧ wx = w.alloc (.cells (evV 1 a b n s t u) 23))
    case first =>
      by_cases hn0 : n = 0
      · have HF : Hid (flagB n = true) := Lib.hid (by unfold flagB; rw [hn0]; rfl)
        have e0 : (n == 0) = true := by simpa using hn0
        clear hn0
        go_wp2_with fail
        go_meet
        exact ⟨by rw [HF.out], rfl⟩
      · have HF : Hid (flagB n = (n == 1)) := Lib.hid (by unfold flagB; rw [show (n == 0) = false by simpa using hn0]; rfl)
        have e0 : (n == 0) = false := by simpa using hn0
        clear hn0
        go_wp2_with fail
        go_meet
        exact ⟨by rw [HF.out], rfl⟩
    case rest =>
      obtain ⟨rfl, rfl⟩ := hcut
      simp only [evV]
      generalize hfl : flagB n = fl at *
      have HFL := Lib.hid hfl
      clear hfl
      have H0 := Lib.hid (fun W => id14_any a W)
      cases hc0 : idB a with
      | false =>
        rw [hc0] at HB H0
        rw [Bool.false_and] at HB
        clear hc0
        go_wp2_with fail
        (with_reducible refine (H0.out _).mono ?_)
        rintro e w1 ⟨rfl, rfl⟩
        go_wp2_with fail
        go_ret
        exact ⟨by rw [HB.out]; rfl, bel_alloc (Below.refl _ _) _⟩
      | true =>
        rw [hc0] at HB H0
        rw [Bool.true_and] at HB
        clear hc0
        cases fo with
        | false =>
          rw [Bool.false_and] at HB
          go_wp2_with fail
          (with_reducible refine (H0.out _).mono ?_)
          rintro e w1 ⟨rfl, rfl⟩
          go_wp2_with fail
          go_ret
          exact ⟨by rw [HB.out]; rfl, bel_alloc (Below.refl _ _) _⟩
        | true =>
          rw [Bool.true_and] at HB
          have H2 := Lib.hid (fun W => label_any s W hs)
          generalize labelB s = z2 at *
          go_wp2_with fail
          (with_reducible refine (H0.out _).mono ?_)
          rintro e w1 ⟨rfl, rfl⟩
          go_wp2_with fail
          (with_reducible refine (H2.out _).mono ?_)
          rintro e w2 ⟨rfl, hb2⟩
          have B2 := bel_step (bel_alloc (Below.refl w.heap.size w) _) hb2
          have G2 := hb2
          go_wp2_with fail
          go_ret
          exact ⟨by rw [HB.out]; rfl, B2⟩
set_option maxHeartbeats 4000000 in
theorem right_2 (a b n : Int) (s t u : List UInt8) (w : World) (hs : s.length ≤ 20000) (ht : t.length ≤ 20000) (hu : u.length ≤ 20000) : Calls Tryz.prog 27 #[.agg (evV 2 a b n s t u)] w fun e w' => e = .returned (.bool (rightB 2 a b n s t u)) ∧ Below w.heap.size w w' := by
  have HB := Lib.hid (rightB_2 a b n s t u)
  generalize rightB 2 a b n s t u = res at *
  unfold evV
  go_enter Tryz.func27, Tryz.ntmps27
  go_upto_region 1 with fail
  go_cut [3] (fun v wx => v = .bool (folderB b) ∧ wx = w.alloc (.cells (evV 2 a b n s t u) 23))
  case first =>
    by_cases hb0 : b = 0
    · have HF : Hid (folderB b = true) := Lib.hid (by unfold folderB; rw [hb0]; rfl)
      have e0 : (b == 0) = true := by simpa using hb0
      clear hb0
      go_wp2_with fail
      go_meet
      exact ⟨by rw [HF.out], rfl⟩
    · have HF : Hid (folderB b = idB b) := Lib.hid (by unfold folderB; rw [show (b == 0) = false by simpa using hb0]; rfl)
      have e0 : (b == 0) = false := by simpa using hb0
      clear hb0
      go_wp2_with fail
      (with_reducible refine (id14_any b _).mono ?_)
      rintro e w1 ⟨rfl, rfl⟩
      go_wp2_with fail
      go_meet
      exact ⟨by rw [HF.out], rfl⟩
  case rest =>
    obtain ⟨rfl, rfl⟩ := hcut
    simp only [evV]
    generalize hff : folderB b = fo at *
    have HFF := Lib.hid hff
    clear hff
    go_upto_region 2 with fail
    go_cut [4] (fun v wx => v = .bool (flagB n) ∧ wx = w.alloc (.cells (evV 2 a b n s t u) 23))
    case first =>
      by_cases hn0 : n = 0
      · have HF : Hid (flagB n = true) := Lib.hid (by unfold flagB; rw [hn0]; rfl)
        have e0 : (n == 0) = true := by simpa using hn0
        clear hn0
        go_wp2_with fail
        go_meet
        exact ⟨by rw [HF.out], rfl⟩
      · have HF : Hid (flagB n = (n == 1)) := Lib.hid (by unfold flagB; rw [show (n == 0) = false by simpa using hn0]; rfl)
        have e0 : (n == 0) = false := by simpa using hn0
        clear hn0
        go_wp2_with fail
        go_meet
        exact ⟨by rw [HF.out], rfl⟩
    case rest =>
      obtain ⟨rfl, rfl⟩ := hcut
      simp only [evV]
      generalize hfl : flagB n = fl at *
      have HFL := Lib.hid hfl
      clear hfl
      have H0 := Lib.hid (fun W => id14_any a W)
      generalize idB a = z0 at *
      go_wp2_with fail
      (with_reducible refine (H0.out _).mono ?_)
      rintro e w1 ⟨rfl, rfl⟩
      go_wp2_with fail
      go_ret
      exact ⟨by rw [HB.out]; rfl, bel_alloc (Below.refl _ _) _⟩
set_option maxHeartbeats 4000000 in
theorem right_3 (a b n : Int) (s t u : List UInt8) (w : World) (hs : s.length ≤ 20000) (ht : t.length ≤ 20000) (hu : u.length ≤ 20000) : Calls Tryz.prog 27 #[.agg (evV 3 a b n s t u)] w fun e w' => e = .returned (.bool (rightB 3 a b n s t u)) ∧ Below w.heap.size w w' := by
  have HB := Lib.hid (rightB_3 a b n s t u)
  generalize rightB 3 a b n s t u = res at *
  unfold evV
  go_enter Tryz.func27, Tryz.ntmps27
  go_upto_region 1 with fail
  go_cut [3] (fun v wx => v = .bool (folderB b) ∧ wx = w.alloc (.cells (evV 3 a b n s t u) 23))
  case first =>
    by_cases hb0 : b = 0
    · have HF : Hid (folderB b = true) := Lib.hid (by unfold folderB; rw [hb0]; rfl)
      have e0 : (b == 0) = true := by simpa using hb0
      clear hb0
      go_wp2_with fail
      go_meet
      exact ⟨by rw [HF.out], rfl⟩
    · have HF : Hid (folderB b = idB b) := Lib.hid (by unfold folderB; rw [show (b == 0) = false by simpa using hb0]; rfl)
      have e0 : (b == 0) = false := by simpa using hb0
      clear hb0
      go_wp2_with fail
      (with_reducible refine (id14_any b _).mono ?_)
      rintro e w1 ⟨rfl, rfl⟩
      go_wp2_with fail
      go_meet
      exact ⟨by rw [HF.out], rfl⟩
  case rest =>
    obtain ⟨rfl, rfl⟩ := hcut
    simp only [evV]
    generalize hff : folderB b = fo at *
    have HFF := Lib.hid hff
    clear hff
    go_upto_region 2 with fail
    go_cut [4] (fun v wx => v = .bool (flagB n) ∧ wx = w.alloc (.cells (evV 3 a b n s t u) 23))
    case first =>
      by_cases hn0 : n = 0
      · have HF : Hid (flagB n = true) := Lib.hid (by unfold flagB; rw [hn0]; rfl)
        have e0 : (n == 0) = true := by simpa using hn0
        clear hn0
        go_wp2_with fail
        go_meet
        exact ⟨by rw [HF.out], rfl⟩
      · have HF : Hid (flagB n = (n == 1)) := Lib.hid (by unfold flagB; rw [show (n == 0) = false by simpa using hn0]; rfl)
        have e0 : (n == 0) = false := by simpa using hn0
        clear hn0
        go_wp2_with fail
        go_meet
        exact ⟨by rw [HF.out], rfl⟩
    case rest =>
      obtain ⟨rfl, rfl⟩ := hcut
      simp only [evV]
      generalize hfl : flagB n = fl at *
      have HFL := Lib.hid hfl
      clear hfl
      have H0 := Lib.hid (fun W => id14_any a W)
      cases hc0 : idB a with
      | false =>
        rw [hc0] at HB H0
        rw [Bool.false_and] at HB
        clear hc0
        go_wp2_with fail
        (with_reducible refine (H0.out _).mono ?_)
        rintro e w1 ⟨rfl, rfl⟩
        go_wp2_with fail
        go_ret
        exact ⟨by rw [HB.out]; rfl, bel_alloc (Below.refl _ _) _⟩
      | true =>
        rw [hc0] at HB H0
        rw [Bool.true_and] at HB
        clear hc0
        cases fo with
        | false =>
          rw [Bool.false_and] at HB
          go_wp2_with fail
          (with_reducible refine (H0.out _).mono ?_)
          rintro e w1 ⟨rfl, rfl⟩
          go_wp2_with fail
          go_ret
          exact ⟨by rw [HB.out]; rfl, bel_alloc (Below.refl _ _) _⟩
        | true =>
          rw [Bool.true_and] at HB
          have H2 := Lib.hid (fun W => place_any s W hs)
          cases hc2 : placeB s with
          | false =>
            rw [hc2] at HB H2
            rw [Bool.false_and] at HB
            clear hc2
            go_wp2_with fail
            (with_reducible refine (H0.out _).mono ?_)
            rintro e w1 ⟨rfl, rfl⟩
            go_wp2_with fail
            (with_reducible refine (H2.out _).mono ?_)
            rintro e w2 ⟨rfl, hb2⟩
            have B2 := bel_step (bel_alloc (Below.refl w.heap.size w) _) hb2
            have G2 := hb2
            go_wp2_with fail
            go_ret
            exact ⟨by rw [HB.out]; rfl, B2⟩
          | true =>
            rw [hc2] at HB H2
            rw [Bool.true_and] at HB
            clear hc2
            have H3 := Lib.hid (fun W => title_any t W ht)
            generalize titleB t = z3 at *
            go_wp2_with fail
            (with_reducible refine (H0.out _).mono ?_)
            rintro e w1 ⟨rfl, rfl⟩
            go_wp2_with fail
            (with_reducible refine (H2.out _).mono ?_)
            rintro e w2 ⟨rfl, hb2⟩
            have B2 := bel_step (bel_alloc (Below.refl w.heap.size w) _) hb2
            have G2 := hb2
            have c2_5 : w2.cell? ⟨w.heap.size, 5, none⟩ = some (.string ⟨t.toArray⟩) := (G2.cell (p := ⟨w.heap.size, 5, none⟩) (by simp)).trans (by simp)
            go_wp2_with fail
            (with_reducible refine (H3.out _).mono ?_)
            rintro e w3 ⟨rfl, hb3⟩
            have B3 := bel_step (B2) hb3
            have G3 := bel_step G2 hb3
            go_wp2_with fail
            go_ret
            exact ⟨by rw [HB.out]; rfl, B3⟩
set_option maxHeartbeats 4000000 in
theorem right_4 (a b n : Int) (s t u : List UInt8) (w : World) (hs : s.length ≤ 20000) (ht : t.length ≤ 20000) (hu : u.length ≤ 20000) : Calls Tryz.prog 27 #[.agg (evV 4 a b n s t u)] w fun e w' => e = .returned (.bool (rightB 4 a b n s t u)) ∧ Below w.heap.size w w' := by
  have HB := Lib.hid (rightB_4 a b n s t u)
  generalize rightB 4 a b n s t u = res at *
  unfold evV
  go_enter Tryz.func27, Tryz.ntmps27
  go_upto_region 1 with fail
  go_cut [3] (fun v wx => v = .bool (folderB b) ∧ wx = w.alloc (.cells (evV 4 a b n s t u) 23))
  case first =>
    by_cases hb0 : b = 0
    · have HF : Hid (folderB b = true) := Lib.hid (by unfold folderB; rw [hb0]; rfl)
      have e0 : (b == 0) = true := by simpa using hb0
      clear hb0
      go_wp2_with fail
      go_meet
      exact ⟨by rw [HF.out], rfl⟩
    · have HF : Hid (folderB b = idB b) := Lib.hid (by unfold folderB; rw [show (b == 0) = false by simpa using hb0]; rfl)
      have e0 : (b == 0) = false := by simpa using hb0
      clear hb0
      go_wp2_with fail
      (with_reducible refine (id14_any b _).mono ?_)
      rintro e w1 ⟨rfl, rfl⟩
      go_wp2_with fail
      go_meet
      exact ⟨by rw [HF.out], rfl⟩
  case rest =>
    obtain ⟨rfl, rfl⟩ := hcut
    simp only [evV]
    generalize hff : folderB b = fo at *
    have HFF := Lib.hid hff
    clear hff
    go_upto_region 2 with fail
    go_cut [4] (fun v wx => v = .bool (flagB n) ∧ wx = w.alloc (.cells (evV 4 a b n s t u) 23))
    case first =>
      by_cases hn0 : n = 0
      · have HF : Hid (flagB n = true) := Lib.hid (by unfold flagB; rw [hn0]; rfl)
        have e0 : (n == 0) = true := by simpa using hn0
        clear hn0
        go_wp2_with fail
        go_meet
        exact ⟨by rw [HF.out], rfl⟩
      · have HF : Hid (flagB n = (n == 1)) := Lib.hid (by unfold flagB; rw [show (n == 0) = false by simpa using hn0]; rfl)
        have e0 : (n == 0) = false := by simpa using hn0
        clear hn0
        go_wp2_with fail
        go_meet
        exact ⟨by rw [HF.out], rfl⟩
    case rest =>
      obtain ⟨rfl, rfl⟩ := hcut
      simp only [evV]
      generalize hfl : flagB n = fl at *
      have HFL := Lib.hid hfl
      clear hfl
      have H0 := Lib.hid (fun W => id14_any a W)
      generalize idB a = z0 at *
      go_wp2_with fail
      (with_reducible refine (H0.out _).mono ?_)
      rintro e w1 ⟨rfl, rfl⟩
      go_wp2_with fail
      go_ret
      exact ⟨by rw [HB.out]; rfl, bel_alloc (Below.refl _ _) _⟩
set_option maxHeartbeats 4000000 in
theorem right_5 (a b n : Int) (s t u : List UInt8) (w : World) (hs : s.length ≤ 20000) (ht : t.length ≤ 20000) (hu : u.length ≤ 20000) : Calls Tryz.prog 27 #[.agg (evV 5 a b n s t u)] w fun e w' => e = .returned (.bool (rightB 5 a b n s t u)) ∧ Below w.heap.size w w' := by
  have HB := Lib.hid (rightB_5 a b n s t u)
  generalize rightB 5 a b n s t u = res at *
  unfold evV
  go_enter Tryz.func27, Tryz.ntmps27
  go_upto_region 1 with fail
  go_cut [3] (fun v wx => v = .bool (folderB b) ∧ wx = w.alloc (.cells (evV 5 a b n s t u) 23))
  case first =>
    by_cases hb0 : b = 0
    · have HF : Hid (folderB b = true) := Lib.hid (by unfold folderB; rw [hb0]; rfl)
      have e0 : (b == 0) = true := by simpa using hb0
      clear hb0
      go_wp2_with fail
      go_meet
      exact ⟨by rw [HF.out], rfl⟩
    · have HF : Hid (folderB b = idB b) := Lib.hid (by unfold folderB; rw [show (b == 0) = false by simpa using hb0]; rfl)
      have e0 : (b == 0) = false := by simpa using hb0
      clear hb0
      go_wp2_with fail
      (with_reducible refine (id14_any b _).mono ?_)
      rintro e w1 ⟨rfl, rfl⟩
      go_wp2_with fail
      go_meet
      exact ⟨by rw [HF.out], rfl⟩
  case rest =>
    obtain ⟨rfl, rfl⟩ := hcut
    simp only [evV]
    generalize hff : folderB b = fo at *
    have HFF := Lib.hid hff
    clear hff
    go_upto_region 2 with fail
    go_cut [4] (fun v wx => v = .bool (flagB n) ∧ wx = w.alloc (.cells (evV 5 a b n s t u) 23))
    case first =>
      by_cases hn0 : n = 0
      · have HF : Hid (flagB n = true) := Lib.hid (by unfold flagB; rw [hn0]; rfl)
        have e0 : (n == 0) = true := by simpa using hn0
        clear hn0
        go_wp2_with fail
        go_meet
        exact ⟨by rw [HF.out], rfl⟩
      · have HF : Hid (flagB n = (n == 1)) := Lib.hid (by unfold flagB; rw [show (n == 0) = false by simpa using hn0]; rfl)
        have e0 : (n == 0) = false := by simpa using hn0
        clear hn0
        go_wp2_with fail
        go_meet
        exact ⟨by rw [HF.out], rfl⟩
    case rest =>
      obtain ⟨rfl, rfl⟩ := hcut
      simp only [evV]
      generalize hfl : flagB n = fl at *
      have HFL := Lib.hid hfl
      clear hfl
      have H0 := Lib.hid (fun W => id14_any a W)
      cases hc0 : idB a with
      | false =>
        rw [hc0] at HB H0
        rw [Bool.false_and] at HB
        clear hc0
        go_wp2_with fail
        (with_reducible refine (H0.out _).mono ?_)
        rintro e w1 ⟨rfl, rfl⟩
        go_wp2_with fail
        go_ret
        exact ⟨by rw [HB.out]; rfl, bel_alloc (Below.refl _ _) _⟩
      | true =>
        rw [hc0] at HB H0
        rw [Bool.true_and] at HB
        clear hc0
        have H1 := Lib.hid (fun W => title_any t W ht)
        generalize titleB t = z1 at *
        go_wp2_with fail
        (with_reducible refine (H0.out _).mono ?_)
        rintro e w1 ⟨rfl, rfl⟩
        go_wp2_with fail
        (with_reducible refine (H1.out _).mono ?_)
        rintro e w2 ⟨rfl, hb2⟩
        have B2 := bel_step (bel_alloc (Below.refl w.heap.size w) _) hb2
        have G2 := hb2
        go_wp2_with fail
        go_ret
        exact ⟨by rw [HB.out]; rfl, B2⟩
set_option maxHeartbeats 4000000 in
theorem right_6 (a b n : Int) (s t u : List UInt8) (w : World) (hs : s.length ≤ 20000) (ht : t.length ≤ 20000) (hu : u.length ≤ 20000) : Calls Tryz.prog 27 #[.agg (evV 6 a b n s t u)] w fun e w' => e = .returned (.bool (rightB 6 a b n s t u)) ∧ Below w.heap.size w w' := by
  have HB := Lib.hid (rightB_6 a b n s t u)
  generalize rightB 6 a b n s t u = res at *
  unfold evV
  go_enter Tryz.func27, Tryz.ntmps27
  go_upto_region 1 with fail
  go_cut [3] (fun v wx => v = .bool (folderB b) ∧ wx = w.alloc (.cells (evV 6 a b n s t u) 23))
  case first =>
    by_cases hb0 : b = 0
    · have HF : Hid (folderB b = true) := Lib.hid (by unfold folderB; rw [hb0]; rfl)
      have e0 : (b == 0) = true := by simpa using hb0
      clear hb0
      go_wp2_with fail
      go_meet
      exact ⟨by rw [HF.out], rfl⟩
    · have HF : Hid (folderB b = idB b) := Lib.hid (by unfold folderB; rw [show (b == 0) = false by simpa using hb0]; rfl)
      have e0 : (b == 0) = false := by simpa using hb0
      clear hb0
      go_wp2_with fail
      (with_reducible refine (id14_any b _).mono ?_)
      rintro e w1 ⟨rfl, rfl⟩
      go_wp2_with fail
      go_meet
      exact ⟨by rw [HF.out], rfl⟩
  case rest =>
    obtain ⟨rfl, rfl⟩ := hcut
    simp only [evV]
    generalize hff : folderB b = fo at *
    have HFF := Lib.hid hff
    clear hff
    go_upto_region 2 with fail
    go_cut [4] (fun v wx => v = .bool (flagB n) ∧ wx = w.alloc (.cells (evV 6 a b n s t u) 23))
    case first =>
      by_cases hn0 : n = 0
      · have HF : Hid (flagB n = true) := Lib.hid (by unfold flagB; rw [hn0]; rfl)
        have e0 : (n == 0) = true := by simpa using hn0
        clear hn0
        go_wp2_with fail
        go_meet
        exact ⟨by rw [HF.out], rfl⟩
      · have HF : Hid (flagB n = (n == 1)) := Lib.hid (by unfold flagB; rw [show (n == 0) = false by simpa using hn0]; rfl)
        have e0 : (n == 0) = false := by simpa using hn0
        clear hn0
        go_wp2_with fail
        go_meet
        exact ⟨by rw [HF.out], rfl⟩
    case rest =>
      obtain ⟨rfl, rfl⟩ := hcut
      simp only [evV]
      generalize hfl : flagB n = fl at *
      have HFL := Lib.hid hfl
      clear hfl
      have H0 := Lib.hid (fun W => id14_any a W)
      cases hc0 : idB a with
      | false =>
        rw [hc0] at HB H0
        rw [Bool.false_and] at HB
        clear hc0
        go_wp2_with fail
        (with_reducible refine (H0.out _).mono ?_)
        rintro e w1 ⟨rfl, rfl⟩
        go_wp2_with fail
        go_ret
        exact ⟨by rw [HB.out]; rfl, bel_alloc (Below.refl _ _) _⟩
      | true =>
        rw [hc0] at HB H0
        rw [Bool.true_and] at HB
        clear hc0
        go_wp2_with fail
        (with_reducible refine (H0.out _).mono ?_)
        rintro e w1 ⟨rfl, rfl⟩
        go_wp2_with fail
        go_ret
        exact ⟨by rw [HB.out]; rfl, bel_alloc (Below.refl _ _) _⟩
set_option maxHeartbeats 4000000 in
theorem right_7 (a b n : Int) (s t u : List UInt8) (w : World) (hs : s.length ≤ 20000) (ht : t.length ≤ 20000) (hu : u.length ≤ 20000) : Calls Tryz.prog 27 #[.agg (evV 7 a b n s t u)] w fun e w' => e = .returned (.bool (rightB 7 a b n s t u)) ∧ Below w.heap.size w w' := by
  have HB := Lib.hid (rightB_7 a b n s t u)
  generalize rightB 7 a b n s t u = res at *
  unfold evV
  go_enter Tryz.func27, Tryz.ntmps27
  go_upto_region 1 with fail
  go_cut [3] (fun v wx => v = .bool (folderB b) ∧ wx = w.alloc (.cells (evV 7 a b n s t u) 23))
  case first =>
    by_cases hb0 : b = 0
    · have HF : Hid (folderB b = true) := Lib.hid (by unfold folderB; rw [hb0]; rfl)
      have e0 : (b == 0) = true := by simpa using hb0
      clear hb0
      go_wp2_with fail
      go_meet
      exact ⟨by rw [HF.out], rfl⟩
    · have HF : Hid (folderB b = idB b) := Lib.hid (by unfold folderB; rw [show (b == 0) = false by simpa using hb0]; rfl)
      have e0 : (b == 0) = false := by simpa using hb0
      clear hb0
      go_wp2_with fail
      (with_reducible refine (id14_any b _).mono ?_)
      rintro e w1 ⟨rfl, rfl⟩
      go_wp2_with fail
      go_meet
      exact ⟨by rw [HF.out], rfl⟩
  case rest =>
    obtain ⟨rfl, rfl⟩ := hcut
    simp only [evV]
    generalize hff : folderB b = fo at *
    have HFF := Lib.hid hff
    clear hff
    go_upto_region 2 with fail
    go_cut [4] (fun v wx => v = .bool (flagB n) ∧ wx = w.alloc (.cells (evV 7 a b n s t u) 23))
    case first =>
      by_cases hn0 : n = 0
      · have HF : Hid (flagB n = true) := Lib.hid (by unfold flagB; rw [hn0]; rfl)
        have e0 : (n == 0) = true := by simpa using hn0
        clear hn0
        go_wp2_with fail
        go_meet
        exact ⟨by rw [HF.out], rfl⟩
      · have HF : Hid (flagB n = (n == 1)) := Lib.hid (by unfold flagB; rw [show (n == 0) = false by simpa using hn0]; rfl)
        have e0 : (n == 0) = false := by simpa using hn0
        clear hn0
        go_wp2_with fail
        go_meet
        exact ⟨by rw [HF.out], rfl⟩
    case rest =>
      obtain ⟨rfl, rfl⟩ := hcut
      simp only [evV]
      generalize hfl : flagB n = fl at *
      have HFL := Lib.hid hfl
      clear hfl
      have H0 := Lib.hid (fun W => id14_any a W)
      cases hc0 : idB a with
      | false =>
        rw [hc0] at HB H0
        rw [Bool.false_and] at HB
        clear hc0
        go_wp2_with fail
        (with_reducible refine (H0.out _).mono ?_)
        rintro e w1 ⟨rfl, rfl⟩
        go_wp2_with fail
        go_ret
        exact ⟨by rw [HB.out]; rfl, bel_alloc (Below.refl _ _) _⟩
      | true =>
        rw [hc0] at HB H0
        rw [Bool.true_and] at HB
        clear hc0
        have H1 := Lib.hid (fun W => id14_any b W)
        cases hc1 : idB b with
        | false =>
          rw [hc1] at HB H1
          rw [Bool.false_and] at HB
          clear hc1
          go_wp2_with fail
          (with_reducible refine (H0.out _).mono ?_)
          rintro e w1 ⟨rfl, rfl⟩
          go_wp2_with fail
          (with_reducible refine (H1.out _).mono ?_)
          rintro e w2 ⟨rfl, rfl⟩
          go_wp2_with fail
          go_ret
          exact ⟨by rw [HB.out]; rfl, bel_alloc (Below.refl _ _) _⟩
        | true =>
          rw [hc1] at HB H1
          rw [Bool.true_and] at HB
          clear hc1
          have H2 := Lib.hid (fun W => moment14_any n W)
          cases hc2 : mayM n with
          | false =>
            rw [hc2] at HB H2
            rw [Bool.false_and] at HB
            clear hc2
            go_wp2_with fail
            (with_reducible refine (H0.out _).mono ?_)
            rintro e w1 ⟨rfl, rfl⟩
            go_wp2_with fail
            (with_reducible refine (H1.out _).mono ?_)
            rintro e w2 ⟨rfl, rfl⟩
            go_wp2_with fail
            (with_reducible refine (H2.out _).mono ?_)
            rintro e w3 ⟨rfl, hb3⟩
            have B3 := bel_step (bel_alloc (Below.refl w.heap.size w) _) hb3
            have G3 := hb3
            go_wp2_with fail
            go_ret
            exact ⟨by rw [HB.out]; rfl, B3⟩
          | true =>
            rw [hc2] at HB H2
            rw [Bool.true_and] at HB
            clear hc2
            have H3 := Lib.hid (fun W => place_any s W hs)
            cases hc3 : placeB s with
            | false =>
              rw [hc3] at HB H3
              rw [Bool.false_and] at HB
              clear hc3
              go_wp2_with fail
              (with_reducible refine (H0.out _).mono ?_)
              rintro e w1 ⟨rfl, rfl⟩
              go_wp2_with fail
              (with_reducible refine (H1.out _).mono ?_)
              rintro e w2 ⟨rfl, rfl⟩
              go_wp2_with fail
              (with_reducible refine (H2.out _).mono ?_)
              rintro e w3 ⟨rfl, hb3⟩
              have B3 := bel_step (bel_alloc (Below.refl w.heap.size w) _) hb3
              have G3 := hb3
              have c3_4 : w3.cell? ⟨w.heap.size, 4, none⟩ = some (.string ⟨s.toArray⟩) := (G3.cell (p := ⟨w.heap.size, 4, none⟩) (by simp)).trans (by simp)
              go_wp2_with fail
              (with_reducible refine (H3.out _).mono ?_)
              rintro e w4 ⟨rfl, hb4⟩
              have B4 := bel_step (B3) hb4
              have G4 := bel_step G3 hb4
              go_wp2_with fail
              go_ret
              exact ⟨by rw [HB.out]; rfl, B4⟩
            | true =>
              rw [hc3] at HB H3
              rw [Bool.true_and] at HB
              clear hc3
              have H4 := Lib.hid (fun W => title_any t W ht)
              cases hc4 : titleB t with
              | false =>
                rw [hc4] at HB H4
                rw [Bool.false_and] at HB
                clear hc4
                go_wp2_with fail
                (with_reducible refine (H0.out _).mono ?_)
                rintro e w1 ⟨rfl, rfl⟩
                go_wp2_with fail
                (with_reducible refine (H1.out _).mono ?_)
                rintro e w2 ⟨rfl, rfl⟩
                go_wp2_with fail
                (with_reducible refine (H2.out _).mono ?_)
                rintro e w3 ⟨rfl, hb3⟩
                have B3 := bel_step (bel_alloc (Below.refl w.heap.size w) _) hb3
                have G3 := hb3
                have c3_4 : w3.cell? ⟨w.heap.size, 4, none⟩ = some (.string ⟨s.toArray⟩) := (G3.cell (p := ⟨w.heap.size, 4, none⟩) (by simp)).trans (by simp)
                have c3_5 : w3.cell? ⟨w.heap.size, 5, none⟩ = some (.string ⟨t.toArray⟩) := (G3.cell (p := ⟨w.heap.size, 5, none⟩) (by simp)).trans (by simp)
                go_wp2_with fail
                (with_reducible refine (H3.out _).mono ?_)
                rintro e w4 ⟨rfl, hb4⟩
                have B4 := bel_step (B3) hb4
                have G4 := bel_step G3 hb4
                have c4_5 : w4.cell? ⟨w.heap.size, 5, none⟩ = some (.string ⟨t.toArray⟩) := (G4.cell (p := ⟨w.heap.size, 5, none⟩) (by simp)).trans (by simp)
                go_wp2_with fail
                (with_reducible refine (H4.out _).mono ?_)
                rintro e w5 ⟨rfl, hb5⟩
                have B5 := bel_step (B4) hb5
                have G5 := bel_step G4 hb5
                go_wp2_with fail
                go_ret
                exact ⟨by rw [HB.out]; rfl, B5⟩
              | true =>
                rw [hc4] at HB H4
                rw [Bool.true_and] at HB
                clear hc4
                have H5 := Lib.hid (fun W => link_any u W hu)
                generalize linkB u = z5 at *
                go_wp2_with fail
                (with_reducible refine (H0.out _).mono ?_)
                rintro e w1 ⟨rfl, rfl⟩
                go_wp2_with fail
                (with_reducible refine (H1.out _).mono ?_)
                rintro e w2 ⟨rfl, rfl⟩
                go_wp2_with fail
                (with_reducible refine (H2.out _).mono ?_)
                rintro e w3 ⟨rfl, hb3⟩
                have B3 := bel_step (bel_alloc (Below.refl w.heap.size w) _) hb3
                have G3 := hb3
                have c3_4 : w3.cell? ⟨w.heap.size, 4, none⟩ = some (.string ⟨s.toArray⟩) := (G3.cell (p := ⟨w.heap.size, 4, none⟩) (by simp)).trans (by simp)
                have c3_5 : w3.cell? ⟨w.heap.size, 5, none⟩ = some (.string ⟨t.toArray⟩) := (G3.cell (p := ⟨w.heap.size, 5, none⟩) (by simp)).trans (by simp)
                have c3_6 : w3.cell? ⟨w.heap.size, 6, none⟩ = some (.string ⟨u.toArray⟩) := (G3.cell (p := ⟨w.heap.size, 6, none⟩) (by simp)).trans (by simp)
                go_wp2_with fail
                (with_reducible refine (H3.out _).mono ?_)
                rintro e w4 ⟨rfl, hb4⟩
                have B4 := bel_step (B3) hb4
                have G4 := bel_step G3 hb4
                have c4_5 : w4.cell? ⟨w.heap.size, 5, none⟩ = some (.string ⟨t.toArray⟩) := (G4.cell (p := ⟨w.heap.size, 5, none⟩) (by simp)).trans (by simp)
                have c4_6 : w4.cell? ⟨w.heap.size, 6, none⟩ = some (.string ⟨u.toArray⟩) := (G4.cell (p := ⟨w.heap.size, 6, none⟩) (by simp)).trans (by simp)
                go_wp2_with fail
                (with_reducible refine (H4.out _).mono ?_)
                rintro e w5 ⟨rfl, hb5⟩
                have B5 := bel_step (B4) hb5
                have G5 := bel_step G4 hb5
                have c5_6 : w5.cell? ⟨w.heap.size, 6, none⟩ = some (.string ⟨u.toArray⟩) := (G5.cell (p := ⟨w.heap.size, 6, none⟩) (by simp)).trans (by simp)
                go_wp2_with fail
                (with_reducible refine (H5.out _).mono ?_)
                rintro e w6 ⟨rfl, hb6⟩
                have B6 := bel_step (B5) hb6
                have G6 := bel_step G5 hb6
                go_wp2_with fail
                go_ret
                exact ⟨by rw [HB.out]; rfl, B6⟩
set_option maxHeartbeats 4000000 in
theorem right_8 (a b n : Int) (s t u : List UInt8) (w : World) (hs : s.length ≤ 20000) (ht : t.length ≤ 20000) (hu : u.length ≤ 20000) : Calls Tryz.prog 27 #[.agg (evV 8 a b n s t u)] w fun e w' => e = .returned (.bool (rightB 8 a b n s t u)) ∧ Below w.heap.size w w' := by
  have HB := Lib.hid (rightB_8 a b n s t u)
  generalize rightB 8 a b n s t u = res at *
  unfold evV
  go_enter Tryz.func27, Tryz.ntmps27
  go_upto_region 1 with fail
  go_cut [3] (fun v wx => v = .bool (folderB b) ∧ wx = w.alloc (.cells (evV 8 a b n s t u) 23))
  case first =>
    by_cases hb0 : b = 0
    · have HF : Hid (folderB b = true) := Lib.hid (by unfold folderB; rw [hb0]; rfl)
      have e0 : (b == 0) = true := by simpa using hb0
      clear hb0
      go_wp2_with fail
      go_meet
      exact ⟨by rw [HF.out], rfl⟩
    · have HF : Hid (folderB b = idB b) := Lib.hid (by unfold folderB; rw [show (b == 0) = false by simpa using hb0]; rfl)
      have e0 : (b == 0) = false := by simpa using hb0
      clear hb0
      go_wp2_with fail
      (with_reducible refine (id14_any b _).mono ?_)
      rintro e w1 ⟨rfl, rfl⟩
      go_wp2_with fail
      go_meet
      exact ⟨by rw [HF.out], rfl⟩
  case rest =>
    obtain ⟨rfl, rfl⟩ := hcut
    simp only [evV]
    generalize hff : folderB b = fo at *
    have HFF := Lib.hid hff
    clear hff
    go_upto_region 2 with fail
    go_cut [4] (fun v wx => v = .bool (flagB n) ∧ wx = w.alloc (.cells (evV 8 a b n s t u) 23))
    case first =>
      by_cases hn0 : n = 0
      · have HF : Hid (flagB n = true) := Lib.hid (by unfold flagB; rw [hn0]; rfl)
        have e0 : (n == 0) = true := by simpa using hn0
        clear hn0
        go_wp2_with fail
        go_meet
        exact ⟨by rw [HF.out], rfl⟩
      · have HF : Hid (flagB n = (n == 1)) := Lib.hid (by unfold flagB; rw [show (n == 0) = false by simpa using hn0]; rfl)
        have e0 : (n == 0) = false := by simpa using hn0
        clear hn0
        go_wp2_with fail
        go_meet
        exact ⟨by rw [HF.out], rfl⟩
    case rest =>
      obtain ⟨rfl, rfl⟩ := hcut
      simp only [evV]
      generalize hfl : flagB n = fl at *
      have HFL := Lib.hid hfl
      clear hfl
      have H0 := Lib.hid (fun W => id14_any a W)
      cases hc0 : idB a with
      | false =>
        rw [hc0] at HB H0
        rw [Bool.false_and] at HB
        clear hc0
        go_wp2_with fail
        (with_reducible refine (H0.out _).mono ?_)
        rintro e w1 ⟨rfl, rfl⟩
        go_wp2_with fail
        go_ret
        exact ⟨by rw [HB.out]; rfl, bel_alloc (Below.refl _ _) _⟩
      | true =>
        rw [hc0] at HB H0
        rw [Bool.true_and] at HB
        clear hc0
        go_wp2_with fail
        (with_reducible refine (H0.out _).mono ?_)
        rintro e w1 ⟨rfl, rfl⟩
        go_wp2_with fail
        go_ret
        exact ⟨by rw [HB.out]; rfl, bel_alloc (Below.refl _ _) _⟩
set_option maxHeartbeats 4000000 in
theorem right_9 (a b n : Int) (s t u : List UInt8) (w : World) (hs : s.length ≤ 20000) (ht : t.length ≤ 20000) (hu : u.length ≤ 20000) : Calls Tryz.prog 27 #[.agg (evV 9 a b n s t u)] w fun e w' => e = .returned (.bool (rightB 9 a b n s t u)) ∧ Below w.heap.size w w' := by
  have HB := Lib.hid (rightB_9 a b n s t u)
  generalize rightB 9 a b n s t u = res at *
  unfold evV
  go_enter Tryz.func27, Tryz.ntmps27
  go_upto_region 1 with fail
  go_cut [3] (fun v wx => v = .bool (folderB b) ∧ wx = w.alloc (.cells (evV 9 a b n s t u) 23))
  case first =>
    by_cases hb0 : b = 0
    · have HF : Hid (folderB b = true) := Lib.hid (by unfold folderB; rw [hb0]; rfl)
      have e0 : (b == 0) = true := by simpa using hb0
      clear hb0
      go_wp2_with fail
      go_meet
      exact ⟨by rw [HF.out], rfl⟩
    · have HF : Hid (folderB b = idB b) := Lib.hid (by unfold folderB; rw [show (b == 0) = false by simpa using hb0]; rfl)
      have e0 : (b == 0) = false := by simpa using hb0
      clear hb0
      go_wp2_with fail
      (with_reducible refine (id14_any b _).mono ?_)
      rintro e w1 ⟨rfl, rfl⟩
      go_wp2_with fail
      go_meet
      exact ⟨by rw [HF.out], rfl⟩
  case rest =>
    obtain ⟨rfl, rfl⟩ := hcut
    simp only [evV]
    generalize hff : folderB b = fo at *
    have HFF := Lib.hid hff
    clear hff
    go_upto_region 2 with fail
    go_cut [4] (fun v wx => v = .bool (flagB n) ∧ wx = w.alloc (.cells (evV 9 a b n s t u) 23))
    case first =>
      by_cases hn0 : n = 0
      · have HF : Hid (flagB n = true) := Lib.hid (by unfold flagB; rw [hn0]; rfl)
        have e0 : (n == 0) = true := by simpa using hn0
        clear hn0
        go_wp2_with fail
        go_meet
        exact ⟨by rw [HF.out], rfl⟩
      · have HF : Hid (flagB n = (n == 1)) := Lib.hid (by unfold flagB; rw [show (n == 0) = false by simpa using hn0]; rfl)
        have e0 : (n == 0) = false := by simpa using hn0
        clear hn0
        go_wp2_with fail
        go_meet
        exact ⟨by rw [HF.out], rfl⟩
    case rest =>
      obtain ⟨rfl, rfl⟩ := hcut
      simp only [evV]
      generalize hfl : flagB n = fl at *
      have HFL := Lib.hid hfl
      clear hfl
      have H0 := Lib.hid (fun W => id14_any a W)
      cases hc0 : idB a with
      | false =>
        rw [hc0] at HB H0
        rw [Bool.false_and] at HB
        clear hc0
        go_wp2_with fail
        (with_reducible refine (H0.out _).mono ?_)
        rintro e w1 ⟨rfl, rfl⟩
        go_wp2_with fail
        go_ret
        exact ⟨by rw [HB.out]; rfl, bel_alloc (Below.refl _ _) _⟩
      | true =>
        rw [hc0] at HB H0
        rw [Bool.true_and] at HB
        clear hc0
        go_wp2_with fail
        (with_reducible refine (H0.out _).mono ?_)
        rintro e w1 ⟨rfl, rfl⟩
        go_wp2_with fail
        go_ret
        exact ⟨by rw [HB.out]; rfl, bel_alloc (Below.refl _ _) _⟩
set_option maxHeartbeats 4000000 in
theorem right_10 (a b n : Int) (s t u : List UInt8) (w : World) (hs : s.length ≤ 20000) (ht : t.length ≤ 20000) (hu : u.length ≤ 20000) : Calls Tryz.prog 27 #[.agg (evV 10 a b n s t u)] w fun e w' => e = .returned (.bool (rightB 10 a b n s t u)) ∧ Below w.heap.size w w' := by
  have HB := Lib.hid (rightB_10 a b n s t u)
  generalize rightB 10 a b n s t u = res at *
  unfold evV
  go_enter Tryz.func27, Tryz.ntmps27
  go_upto_region 1 with fail
  go_cut [3] (fun v wx => v = .bool (folderB b) ∧ wx = w.alloc (.cells (evV 10 a b n s t u) 23))
  case first =>
    by_cases hb0 : b = 0
    · have HF : Hid (folderB b = true) := Lib.hid (by unfold folderB; rw [hb0]; rfl)
      have e0 : (b == 0) = true := by simpa using hb0
      clear hb0
      go_wp2_with fail
      go_meet
      exact ⟨by rw [HF.out], rfl⟩
    · have HF : Hid (folderB b = idB b) := Lib.hid (by unfold folderB; rw [show (b == 0) = false by simpa using hb0]; rfl)
      have e0 : (b == 0) = false := by simpa using hb0
      clear hb0
      go_wp2_with fail
      (with_reducible refine (id14_any b _).mono ?_)
      rintro e w1 ⟨rfl, rfl⟩
      go_wp2_with fail
      go_meet
      exact ⟨by rw [HF.out], rfl⟩
  case rest =>
    obtain ⟨rfl, rfl⟩ := hcut
    simp only [evV]
    generalize hff : folderB b = fo at *
    have HFF := Lib.hid hff
    clear hff
    go_upto_region 2 with fail
    go_cut [4] (fun v wx => v = .bool (flagB n) ∧ wx = w.alloc (.cells (evV 10 a b n s t u) 23))
    case first =>
      by_cases hn0 : n = 0
      · have HF : Hid (flagB n = true) := Lib.hid (by unfold flagB; rw [hn0]; rfl)
        have e0 : (n == 0) = true := by simpa using hn0
        clear hn0
        go_wp2_with fail
        go_meet
        exact ⟨by rw [HF.out], rfl⟩
      · have HF : Hid (flagB n = (n == 1)) := Lib.hid (by unfold flagB; rw [show (n == 0) = false by simpa using hn0]; rfl)
        have e0 : (n == 0) = false := by simpa using hn0
        clear hn0
        go_wp2_with fail
        go_meet
        exact ⟨by rw [HF.out], rfl⟩
    case rest =>
      obtain ⟨rfl, rfl⟩ := hcut
      simp only [evV]
      generalize hfl : flagB n = fl at *
      have HFL := Lib.hid hfl
      clear hfl
      have H0 := Lib.hid (fun W => id14_any a W)
      cases hc0 : idB a with
      | false =>
        rw [hc0] at HB H0
        rw [Bool.false_and] at HB
        clear hc0
        go_wp2_with fail
        (with_reducible refine (H0.out _).mono ?_)
        rintro e w1 ⟨rfl, rfl⟩
        go_wp2_with fail
        go_ret
        exact ⟨by rw [HB.out]; rfl, bel_alloc (Below.refl _ _) _⟩
      | true =>
        rw [hc0] at HB H0
        rw [Bool.true_and] at HB
        clear hc0
        cases fl with
        | false =>
          rw [Bool.false_and] at HB
          go_wp2_with fail
          (with_reducible refine (H0.out _).mono ?_)
          rintro e w1 ⟨rfl, rfl⟩
          go_wp2_with fail
          go_ret
          exact ⟨by rw [HB.out]; rfl, bel_alloc (Below.refl _ _) _⟩
        | true =>
          rw [Bool.true_and] at HB
          have H2 := Lib.hid (fun W => tag_any s W hs)
          generalize tagB s = z2 at *
          go_wp2_with fail
          (with_reducible refine (H0.out _).mono ?_)
          rintro e w1 ⟨rfl, rfl⟩
          go_wp2_with fail
          (with_reducible refine (H2.out _).mono ?_)
          rintro e w2 ⟨rfl, hb2⟩
          have B2 := bel_step (bel_alloc (Below.refl w.heap.size w) _) hb2
          have G2 := hb2
          go_wp2_with fail
          go_ret
          exact ⟨by rw [HB.out]; rfl, B2⟩
set_option maxHeartbeats 4000000 in
theorem right_11 (a b n : Int) (s t u : List UInt8) (w : World) (hs : s.length ≤ 20000) (ht : t.length ≤ 20000) (hu : u.length ≤ 20000) : Calls Tryz.prog 27 #[.agg (evV 11 a b n s t u)] w fun e w' => e = .returned (.bool (rightB 11 a b n s t u)) ∧ Below w.heap.size w w' := by
  have HB := Lib.hid (rightB_11 a b n s t u)
  generalize rightB 11 a b n s t u = res at *
  unfold evV
  go_enter Tryz.func27, Tryz.ntmps27
  go_upto_region 1 with fail
  go_cut [3] (fun v wx => v = .bool (folderB b) ∧ wx = w.alloc (.cells (evV 11 a b n s t u) 23))
  case first =>
    by_cases hb0 : b = 0
    · have HF : Hid (folderB b = true) := Lib.hid (by unfold folderB; rw [hb0]; rfl)
      have e0 : (b == 0) = true := by simpa using hb0
      clear hb0
      go_wp2_with fail
      go_meet
      exact ⟨by rw [HF.out], rfl⟩
    · have HF : Hid (folderB b = idB b) := Lib.hid (by unfold folderB; rw [show (b == 0) = false by simpa using hb0]; rfl)
      have e0 : (b == 0) = false := by simpa using hb0
      clear hb0
      go_wp2_with fail
      (with_reducible refine (id14_any b _).mono ?_)
      rintro e w1 ⟨rfl, rfl⟩
      go_wp2_with fail
      go_meet
      exact ⟨by rw [HF.out], rfl⟩
  case rest =>
    obtain ⟨rfl, rfl⟩ := hcut
    simp only [evV]
    generalize hff : folderB b = fo at *
    have HFF := Lib.hid hff
    clear hff
    go_upto_region 2 with fail
    go_cut [4] (fun v wx => v = .bool (flagB n) ∧ wx = w.alloc (.cells (evV 11 a b n s t u) 23))
    case first =>
      by_cases hn0 : n = 0
      · have HF : Hid (flagB n = true) := Lib.hid (by unfold flagB; rw [hn0]; rfl)
        have e0 : (n == 0) = true := by simpa using hn0
        clear hn0
        go_wp2_with fail
        go_meet
        exact ⟨by rw [HF.out], rfl⟩
      · have HF : Hid (flagB n = (n == 1)) := Lib.hid (by unfold flagB; rw [show (n == 0) = false by simpa using hn0]; rfl)
        have e0 : (n == 0) = false := by simpa using hn0
        clear hn0
        go_wp2_with fail
        go_meet
        exact ⟨by rw [HF.out], rfl⟩
    case rest =>
      obtain ⟨rfl, rfl⟩ := hcut
      simp only [evV]
      generalize hfl : flagB n = fl at *
      have HFL := Lib.hid hfl
      clear hfl
      have H0 := Lib.hid (fun W => id14_any a W)
      cases hc0 : idB a with
      | false =>
        rw [hc0] at HB H0
        rw [Bool.false_and] at HB
        clear hc0
        go_wp2_with fail
        (with_reducible refine (H0.out _).mono ?_)
        rintro e w1 ⟨rfl, rfl⟩
        go_wp2_with fail
        go_ret
        exact ⟨by rw [HB.out]; rfl, bel_alloc (Below.refl _ _) _⟩
      | true =>
        rw [hc0] at HB H0
        rw [Bool.true_and] at HB
        clear hc0
        have H1 := Lib.hid (fun W => label_any s W hs)
        cases hc1 : labelB s with
        | false =>
          rw [hc1] at HB H1
          rw [Bool.false_and] at HB
          clear hc1
          go_wp2_with fail
          (with_reducible refine (H0.out _).mono ?_)
          rintro e w1 ⟨rfl, rfl⟩
          go_wp2_with fail
          (with_reducible refine (H1.out _).mono ?_)
          rintro e w2 ⟨rfl, hb2⟩
          have B2 := bel_step (bel_alloc (Below.refl w.heap.size w) _) hb2
          have G2 := hb2
          go_wp2_with fail
          go_ret
          exact ⟨by rw [HB.out]; rfl, B2⟩
        | true =>
          rw [hc1] at HB H1
          rw [Bool.true_and] at HB
          clear hc1
          have H2 := Lib.hid (fun W => query_any t W ht)
          generalize queryB t = z2 at *
          go_wp2_with fail
          (with_reducible refine (H0.out _).mono ?_)
          rintro e w1 ⟨rfl, rfl⟩
          go_wp2_with fail
          (with_reducible refine (H1.out _).mono ?_)
          rintro e w2 ⟨rfl, hb2⟩
          have B2 := bel_step (bel_alloc (Below.refl w.heap.size w) _) hb2
          have G2 := hb2
          have c2_5 : w2.cell? ⟨w.heap.size, 5, none⟩ = some (.string ⟨t.toArray⟩) := (G2.cell (p := ⟨w.heap.size, 5, none⟩) (by simp)).trans (by simp)
          go_wp2_with fail
          (with_reducible refine (H2.out _).mono ?_)
          rintro e w3 ⟨rfl, hb3⟩
          have B3 := bel_step (B2) hb3
          have G3 := bel_step G2 hb3
          go_wp2_with fail
          go_ret
          exact ⟨by rw [HB.out]; rfl, B3⟩
set_option maxHeartbeats 4000000 in
theorem right_12 (a b n : Int) (s t u : List UInt8) (w : World) (hs : s.length ≤ 20000) (ht : t.length ≤ 20000) (hu : u.length ≤ 20000) : Calls Tryz.prog 27 #[.agg (evV 12 a b n s t u)] w fun e w' => e = .returned (.bool (rightB 12 a b n s t u)) ∧ Below w.heap.size w w' := by
  have HB := Lib.hid (rightB_12 a b n s t u)
  generalize rightB 12 a b n s t u = res at *
  unfold evV
  go_enter Tryz.func27, Tryz.ntmps27
  go_upto_region 1 with fail
  go_cut [3] (fun v wx => v = .bool (folderB b) ∧ wx = w.alloc (.cells (evV 12 a b n s t u) 23))
  case first =>
    by_cases hb0 : b = 0
    · have HF : Hid (folderB b = true) := Lib.hid (by unfold folderB; rw [hb0]; rfl)
      have e0 : (b == 0) = true := by simpa using hb0
      clear hb0
      go_wp2_with fail
      go_meet
      exact ⟨by rw [HF.out], rfl⟩
    · have HF : Hid (folderB b = idB b) := Lib.hid (by unfold folderB; rw [show (b == 0) = false by simpa using hb0]; rfl)
      have e0 : (b == 0) = false := by simpa using hb0
      clear hb0
      go_wp2_with fail
      (with_reducible refine (id14_any b _).mono ?_)
      rintro e w1 ⟨rfl, rfl⟩
      go_wp2_with fail
      go_meet
      exact ⟨by rw [HF.out], rfl⟩
  case rest =>
    obtain ⟨rfl, rfl⟩ := hcut
    simp only [evV]
    generalize hff : folderB b = fo at *
    have HFF := Lib.hid hff
    clear hff
    go_upto_region 2 with fail
    go_cut [4] (fun v wx => v = .bool (flagB n) ∧ wx = w.alloc (.cells (evV 12 a b n s t u) 23))
    case first =>
      by_cases hn0 : n = 0
      · have HF : Hid (flagB n = true) := Lib.hid (by unfold flagB; rw [hn0]; rfl)
        have e0 : (n == 0) = true := by simpa using hn0
        clear hn0
        go_wp2_with fail
        go_meet
        exact ⟨by rw [HF.out], rfl⟩
      · have HF : Hid (flagB n = (n == 1)) := Lib.hid (by unfold flagB; rw [show (n == 0) = false by simpa using hn0]; rfl)
        have e0 : (n == 0) = false := by simpa using hn0
        clear hn0
        go_wp2_with fail
        go_meet
        exact ⟨by rw [HF.out], rfl⟩
    case rest =>
      obtain ⟨rfl, rfl⟩ := hcut
      simp only [evV]
      generalize hfl : flagB n = fl at *
      have HFL := Lib.hid hfl
      clear hfl
      have H0 := Lib.hid (fun W => id14_any a W)
      generalize idB a = z0 at *
      go_wp2_with fail
      (with_reducible refine (H0.out _).mono ?_)
      rintro e w1 ⟨rfl, rfl⟩
      go_wp2_with fail
      go_ret
      exact ⟨by rw [HB.out]; rfl, bel_alloc (Below.refl _ _) _⟩
set_option maxHeartbeats 4000000 in
theorem right_13 (a b n : Int) (s t u : List UInt8) (w : World) (hs : s.length ≤ 20000) (ht : t.length ≤ 20000) (hu : u.length ≤ 20000) : Calls Tryz.prog 27 #[.agg (evV 13 a b n s t u)] w fun e w' => e = .returned (.bool (rightB 13 a b n s t u)) ∧ Below w.heap.size w w' := by
  have HB := Lib.hid (rightB_13 a b n s t u)
  generalize rightB 13 a b n s t u = res at *
  unfold evV
  go_enter Tryz.func27, Tryz.ntmps27
  go_upto_region 1 with fail
  go_cut [3] (fun v wx => v = .bool (folderB b) ∧ wx = w.alloc (.cells (evV 13 a b n s t u) 23))
  case first =>
    by_cases hb0 : b = 0
    · have HF : Hid (folderB b = true) := Lib.hid (by unfold folderB; rw [hb0]; rfl)
      have e0 : (b == 0) = true := by simpa using hb0
      clear hb0
      go_wp2_with fail
      go_meet
      exact ⟨by rw [HF.out], rfl⟩
    · have HF : Hid (folderB b = idB b) := Lib.hid (by unfold folderB; rw [show (b == 0) = false by simpa using hb0]; rfl)
      have e0 : (b == 0) = false := by simpa using hb0
      clear hb0
      go_wp2_with fail
      (with_reducible refine (id14_any b _).mono ?_)
      rintro e w1 ⟨rfl, rfl⟩
      go_wp2_with fail
      go_meet
      exact ⟨by rw [HF.out], rfl⟩
  case rest =>
    obtain ⟨rfl, rfl⟩ := hcut
    simp only [evV]
    generalize hff : folderB b = fo at *
    have HFF := Lib.hid hff
    clear hff
    go_upto_region 2 with fail
    go_cut [4] (fun v wx => v = .bool (flagB n) ∧ wx = w.alloc (.cells (evV 13 a b n s t u) 23))
    case first =>
      by_cases hn0 : n = 0
      · have HF : Hid (flagB n = true) := Lib.hid (by unfold flagB; rw [hn0]; rfl)
        have e0 : (n == 0) = true := by simpa using hn0
        clear hn0
        go_wp2_with fail
        go_meet
        exact ⟨by rw [HF.out], rfl⟩
      · have HF : Hid (flagB n = (n == 1)) := Lib.hid (by unfold flagB; rw [show (n == 0) = false by simpa using hn0]; rfl)
        have e0 : (n == 0) = false := by simpa using hn0
        clear hn0
        go_wp2_with fail
        go_meet
        exact ⟨by rw [HF.out], rfl⟩
    case rest =>
      obtain ⟨rfl, rfl⟩ := hcut
      simp only [evV]
      generalize hfl : flagB n = fl at *
      have HFL := Lib.hid hfl
      clear hfl
      have H0 := Lib.hid (fun W => moment14_any n W)
      generalize mayM n = z0 at *
      go_wp2_with fail
      (with_reducible refine (H0.out _).mono ?_)
      rintro e w1 ⟨rfl, hb1⟩
      have B1 := bel_step (bel_alloc (Below.refl w.heap.size w) _) hb1
      have G1 := hb1
      go_wp2_with fail
      go_ret
      exact ⟨by rw [HB.out]; rfl, B1⟩
theorem rightB_else {k : Int} (hk : ¬ (1 ≤ k ∧ k ≤ 13)) (a b n : Int) (s t u : List UInt8) : rightB k a b n s t u = false := by
  unfold rightB
  rw [if_neg (by omega), if_neg (by omega), if_neg (by omega), if_neg (by omega), if_neg (by omega), if_neg (by omega), if_neg (by omega), if_neg (by omega), if_neg (by omega), if_neg (by omega), if_neg (by omega), if_neg (by omega), if_neg (by omega)]
set_option maxHeartbeats 4000000 in
theorem right_else (k a b n : Int) (s t u : List UInt8) (w : World) (hk : ¬ (1 ≤ k ∧ k ≤ 13)) : Calls Tryz.prog 27 #[.agg (evV k a b n s t u)] w fun e w' => e = .returned (.bool (rightB k a b n s t u)) ∧ Below w.heap.size w w' := by
  have HB := Lib.hid (rightB_else hk a b n s t u)
  generalize rightB k a b n s t u = res at *
  have g1 : (k == 1) = false := by simp; omega
  have g2 : (k == 2) = false := by simp; omega
  have g3 : (k == 3) = false := by simp; omega
  have g4 : (k == 4) = false := by simp; omega
  have g5 : (k == 5) = false := by simp; omega
  have g6 : (k == 6) = false := by simp; omega
  have g7 : (k == 7) = false := by simp; omega
  have g8 : (k == 8) = false := by simp; omega
  have g9 : (k == 9) = false := by simp; omega
  have g10 : (k == 10) = false := by simp; omega
  have g11 : (k == 11) = false := by simp; omega
  have g12 : (k == 12) = false := by simp; omega
  have g13 : (k == 13) = false := by simp; omega
  clear hk
  unfold evV
  go_enter Tryz.func27, Tryz.ntmps27
  go_upto_region 1 with fail
  go_cut [3] (fun v wx => v = .bool (folderB b) ∧ wx = w.alloc (.cells (evV k a b n s t u) 23))
  case first =>
    by_cases hb0 : b = 0
    · have HF : Hid (folderB b = true) := Lib.hid (by unfold folderB; rw [hb0]; rfl)
      have e0 : (b == 0) = true := by simpa using hb0
      clear hb0
      go_wp2_with fail
      go_meet
      exact ⟨by rw [HF.out], rfl⟩
    · have HF : Hid (folderB b = idB b) := Lib.hid (by unfold folderB; rw [show (b == 0) = false by simpa using hb0]; rfl)
      have e0 : (b == 0) = false := by simpa using hb0
      clear hb0
      go_wp2_with fail
      (with_reducible refine (id14_any b _).mono ?_)
      rintro e w1 ⟨rfl, rfl⟩
      go_wp2_with fail
      go_meet
      exact ⟨by rw [HF.out], rfl⟩
  case rest =>
    obtain ⟨rfl, rfl⟩ := hcut
    simp only [evV]
    generalize hff : folderB b = fo at *
    have HFF := Lib.hid hff
    clear hff
    go_upto_region 2 with fail
    go_cut [4] (fun v wx => v = .bool (flagB n) ∧ wx = w.alloc (.cells (evV k a b n s t u) 23))
    case first =>
      by_cases hn0 : n = 0
      · have HF : Hid (flagB n = true) := Lib.hid (by unfold flagB; rw [hn0]; rfl)
        have e0 : (n == 0) = true := by simpa using hn0
        clear hn0
        go_wp2_with fail
        go_meet
        exact ⟨by rw [HF.out], rfl⟩
      · have HF : Hid (flagB n = (n == 1)) := Lib.hid (by unfold flagB; rw [show (n == 0) = false by simpa using hn0]; rfl)
        have e0 : (n == 0) = false := by simpa using hn0
        clear hn0
        go_wp2_with fail
        go_meet
        exact ⟨by rw [HF.out], rfl⟩
    case rest =>
      obtain ⟨rfl, rfl⟩ := hcut
      simp only [evV]
      generalize hfl : flagB n = fl at *
      have HFL := Lib.hid hfl
      clear hfl
      go_wp2_with fail
      go_ret
      exact ⟨by rw [HB.out]; rfl, bel_alloc (Below.refl _ _) _⟩
theorem right14_any (k a b n : Int) (s t u : List UInt8) (w : World) (hs : s.length ≤ 20000) (ht : t.length ≤ 20000) (hu : u.length ≤ 20000) : Calls Tryz.prog 27 #[.agg (evV k a b n s t u)] w fun e w' => e = .returned (.bool (rightB k a b n s t u)) ∧ Below w.heap.size w w' := by
  by_cases hk : 1 ≤ k ∧ k ≤ 13
  · obtain rfl | rfl | rfl | rfl | rfl | rfl | rfl | rfl | rfl | rfl | rfl | rfl | rfl : k = 1 ∨ k = 2 ∨ k = 3 ∨ k = 4 ∨ k = 5 ∨ k = 6 ∨ k = 7 ∨ k = 8 ∨ k = 9 ∨ k = 10 ∨ k = 11 ∨ k = 12 ∨ k = 13 := by omega
    · exact right_1 a b n s t u w hs ht hu
    · exact right_2 a b n s t u w hs ht hu
    · exact right_3 a b n s t u w hs ht hu
    · exact right_4 a b n s t u w hs ht hu
    · exact right_5 a b n s t u w hs ht hu
    · exact right_6 a b n s t u w hs ht hu
    · exact right_7 a b n s t u w hs ht hu
    · exact right_8 a b n s t u w hs ht hu
    · exact right_9 a b n s t u w hs ht hu
    · exact right_10 a b n s t u w hs ht hu
    · exact right_11 a b n s t u w hs ht hu
    · exact right_12 a b n s t u w hs ht hu
    · exact right_13 a b n s t u w hs ht hu
  · exact right_else k a b n s t u w hk
end Go.Proofs.YtchcedoaiihnmaaGreatDoor
