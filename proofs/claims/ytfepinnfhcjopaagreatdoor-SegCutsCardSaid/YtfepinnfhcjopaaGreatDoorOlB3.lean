/-
  The reference's Check of what older formats tell.
-/
import Derived.Test.YtfepinnfhcjopaaGreatDoorOlA
namespace Go.Proofs.YtfepinnfhcjopaaGreatDoor
open Go.RowKit Go.Nst
set_option maxRecDepth 100000
set_option linter.unusedVariables false
set_option linter.unusedSimpArgs false

set_option maxHeartbeats 8000000 in
theorem refCheck16_any (v k a b n : Int) (s t : List UInt8) (w : World) (hs : s.length ≤ 100000) (ht : t.length ≤ 100000) : Calls Tryz.prog 80 #[.agg (OC v k a b n s t)] w fun e w' => e = .returned (.bool (Ol.ok ⟨v, k, a, b, n, s, t⟩)) ∧ Below w.heap.size w w' := by
  have HUS := Lib.hid (fun W => refUses16_any v k W)
  have hm8 := sN_lt v k
  have hq8 := sT_lt v k
  obtain ⟨r, hr⟩ : ∃ r, Ol.ok ⟨v, k, a, b, n, s, t⟩ = r := ⟨_, rfl⟩
  have HR0 : Hid (r = okN (sN v k) (sT v k) (sI v k) a b n s t 0) := Lib.hid hr.symm
  rw [hr]
  clear hr
  generalize sN v k = m at *
  generalize sT v k = q at *
  generalize sI v k = i at *
  have HB := Lib.hid (bel_alloc (bel_alloc (bel_alloc (Below.refl w.heap.size w) (.cells #[.int .i64 v, .int .i64 k, .int .i64 a, .int .i64 b, .int .i64 n, .string ⟨s.toArray⟩, .string ⟨t.toArray⟩] 90)) (.cells #[.int .i64 a, .int .i64 b, .int .i64 n] 3)) (.cells #[.string ⟨s.toArray⟩, .string ⟨t.toArray⟩] 9))
  simp only [OC] at *
  go_enter Tryz.func80, Tryz.ntmps80
  go_wp2_with fail
  (with_reducible refine (HUS.out _).mono ?_)
  rintro e w1 ⟨rfl, rfl⟩
  go_wp2_with fail
  go_loop [8] (fun x => ∃ (z : Int), 0 ≤ z ∧ z ≤ 3 ∧ x = .int .i64 z ∧ Hid (r = okN m q i a b n s t z.toNat)) (fun x => (3 - intOf x).toNat)
  case atStart => exact ⟨0, by omega, by omega, rfl, HR0⟩
  case round =>
    clear HR0
    obtain ⟨z, hz0, hz3, rfl, HR⟩ := hrel
    rcases (by omega : z = 0 ∨ z = 1 ∨ z = 2 ∨ z = 3) with rfl | rfl | rfl | rfl
    · have HR : Hid (r = (chkN m 0 a && (chkN m 1 b && (chkN m 2 n && okT q i s t 0)))) := HR
      cases hmay : mayB a with
      | false =>
        have HR2 : Hid (r = false) := Lib.hid (by rw [HR.out]; unfold chkN; rw [hmay]; rfl)
        have HP := Lib.hid (fun W => refMay_any a W)
        rw [hmay] at HP
        clear hmay HR
        go_wp2_with fail
        (with_reducible refine (HP.out _).mono ?_)
        rintro e w3 ⟨rfl, rfl⟩
        go_wp2_with fail
        go_ret
        exact ⟨by rw [HR2.out]; rfl, HB.out⟩
      | true =>
        have HP := Lib.hid (fun W => refMay_any a W)
        rw [hmay] at HP
        cases hbt : bitB m 0 with
        | true =>
          have e1 : (bits .and .i64 (m : Int) 1 == 0) = false := (bitF_0 hm8).trans (by rw [hbt]; rfl)
          have HN : Hid (r = (chkN m 1 b && (chkN m 2 n && okT q i s t 0))) := Lib.hid (by rw [HR.out]; unfold chkN; rw [hmay, hbt]; simp)
          clear hmay hbt HR
          go_wp2_with fail
          (with_reducible refine (HP.out _).mono ?_)
          rintro e w3 ⟨rfl, rfl⟩
          go_wp2_with fail
          go_round
          case rel => exact ⟨1, by omega, by omega, rfl, HN⟩
          case measure => simp [intOf]
        | false =>
          have e1 : (bits .and .i64 (m : Int) 1 == 0) = true := (bitF_0 hm8).trans (by rw [hbt]; rfl)
          by_cases hx0 : a = 0
          · have HN : Hid (r = (chkN m 1 b && (chkN m 2 n && okT q i s t 0))) := Lib.hid (by rw [HR.out]; unfold chkN; rw [hmay, hbt, hx0]; simp)
            have e2 : (a != 0) = false := by simpa using hx0
            clear hmay hbt HR hx0
            go_wp2_with fail
            (with_reducible refine (HP.out _).mono ?_)
            rintro e w3 ⟨rfl, rfl⟩
            go_wp2_with fail
            go_round
            case rel => exact ⟨1, by omega, by omega, rfl, HN⟩
            case measure => simp [intOf]
          · have HN : Hid (r = false) := Lib.hid (by rw [HR.out]; unfold chkN; rw [hmay, hbt]; simp [hx0])
            have e2 : (a != 0) = true := by simpa using hx0
            clear hmay hbt HR hx0
            go_wp2_with fail
            (with_reducible refine (HP.out _).mono ?_)
            rintro e w3 ⟨rfl, rfl⟩
            go_wp2_with fail
            go_ret
            exact ⟨by rw [HN.out]; rfl, HB.out⟩
    · have HR : Hid (r = (chkN m 1 b && (chkN m 2 n && okT q i s t 0))) := HR
      cases hmay : mayB b with
      | false =>
        have HR2 : Hid (r = false) := Lib.hid (by rw [HR.out]; unfold chkN; rw [hmay]; rfl)
        have HP := Lib.hid (fun W => refMay_any b W)
        rw [hmay] at HP
        clear hmay HR
        go_wp2_with fail
        (with_reducible refine (HP.out _).mono ?_)
        rintro e w3 ⟨rfl, rfl⟩
        go_wp2_with fail
        go_ret
        exact ⟨by rw [HR2.out]; rfl, HB.out⟩
      | true =>
        have HP := Lib.hid (fun W => refMay_any b W)
        rw [hmay] at HP
        cases hbt : bitB m 1 with
        | true =>
          have e1 : (bits .and .i64 ((m : Int) / 2) 1 == 0) = false := (bitF_1 hm8).trans (by rw [hbt]; rfl)
          have HN : Hid (r = (chkN m 2 n && okT q i s t 0)) := Lib.hid (by rw [HR.out]; unfold chkN; rw [hmay, hbt]; simp)
          clear hmay hbt HR
          go_wp2_with fail
          (with_reducible refine (HP.out _).mono ?_)
          rintro e w3 ⟨rfl, rfl⟩
          go_wp2_with fail
          go_round
          case rel => exact ⟨2, by omega, by omega, rfl, HN⟩
          case measure => simp [intOf]
        | false =>
          have e1 : (bits .and .i64 ((m : Int) / 2) 1 == 0) = true := (bitF_1 hm8).trans (by rw [hbt]; rfl)
          by_cases hx0 : b = 0
          · have HN : Hid (r = (chkN m 2 n && okT q i s t 0)) := Lib.hid (by rw [HR.out]; unfold chkN; rw [hmay, hbt, hx0]; simp)
            have e2 : (b != 0) = false := by simpa using hx0
            clear hmay hbt HR hx0
            go_wp2_with fail
            (with_reducible refine (HP.out _).mono ?_)
            rintro e w3 ⟨rfl, rfl⟩
            go_wp2_with fail
            go_round
            case rel => exact ⟨2, by omega, by omega, rfl, HN⟩
            case measure => simp [intOf]
          · have HN : Hid (r = false) := Lib.hid (by rw [HR.out]; unfold chkN; rw [hmay, hbt]; simp [hx0])
            have e2 : (b != 0) = true := by simpa using hx0
            clear hmay hbt HR hx0
            go_wp2_with fail
            (with_reducible refine (HP.out _).mono ?_)
            rintro e w3 ⟨rfl, rfl⟩
            go_wp2_with fail
            go_ret
            exact ⟨by rw [HN.out]; rfl, HB.out⟩
    · have HR : Hid (r = (chkN m 2 n && okT q i s t 0)) := HR
      cases hmay : mayB n with
      | false =>
        have HR2 : Hid (r = false) := Lib.hid (by rw [HR.out]; unfold chkN; rw [hmay]; rfl)
        have HP := Lib.hid (fun W => refMay_any n W)
        rw [hmay] at HP
        clear hmay HR
        go_wp2_with fail
        (with_reducible refine (HP.out _).mono ?_)
        rintro e w3 ⟨rfl, rfl⟩
        go_wp2_with fail
        go_ret
        exact ⟨by rw [HR2.out]; rfl, HB.out⟩
      | true =>
        have HP := Lib.hid (fun W => refMay_any n W)
        rw [hmay] at HP
        cases hbt : bitB m 2 with
        | true =>
          have e1 : (bits .and .i64 ((m : Int) / 4) 1 == 0) = false := (bitF_2 hm8).trans (by rw [hbt]; rfl)
          have HN : Hid (r = okT q i s t 0) := Lib.hid (by rw [HR.out]; unfold chkN; rw [hmay, hbt]; simp)
          clear hmay hbt HR
          go_wp2_with fail
          (with_reducible refine (HP.out _).mono ?_)
          rintro e w3 ⟨rfl, rfl⟩
          go_wp2_with fail
          go_round
          case rel => exact ⟨3, by omega, by omega, rfl, HN⟩
          case measure => simp [intOf]
        | false =>
          have e1 : (bits .and .i64 ((m : Int) / 4) 1 == 0) = true := (bitF_2 hm8).trans (by rw [hbt]; rfl)
          by_cases hx0 : n = 0
          · have HN : Hid (r = okT q i s t 0) := Lib.hid (by rw [HR.out]; unfold chkN; rw [hmay, hbt, hx0]; simp)
            have e2 : (n != 0) = false := by simpa using hx0
            clear hmay hbt HR hx0
            go_wp2_with fail
            (with_reducible refine (HP.out _).mono ?_)
            rintro e w3 ⟨rfl, rfl⟩
            go_wp2_with fail
            go_round
            case rel => exact ⟨3, by omega, by omega, rfl, HN⟩
            case measure => simp [intOf]
          · have HN : Hid (r = false) := Lib.hid (by rw [HR.out]; unfold chkN; rw [hmay, hbt]; simp [hx0])
            have e2 : (n != 0) = true := by simpa using hx0
            clear hmay hbt HR hx0
            go_wp2_with fail
            (with_reducible refine (HP.out _).mono ?_)
            rintro e w3 ⟨rfl, rfl⟩
            go_wp2_with fail
            go_ret
            exact ⟨by rw [HN.out]; rfl, HB.out⟩
    · have HR : Hid (r = okT q i s t 0) := HR
      go_wp2_with fail
      go_loop [9] (fun x => ∃ (z : Int), 0 ≤ z ∧ z ≤ 2 ∧ x = .int .i64 z ∧ Hid (r = okT q i s t z.toNat)) (fun x => (2 - intOf x).toNat)
      case atStart => exact ⟨0, by omega, by omega, rfl, HR⟩
      case round =>
        clear HR
        obtain ⟨z, hz0, hz3, rfl, HR⟩ := hrel
        rcases (by omega : z = 0 ∨ z = 1 ∨ z = 2) with rfl | rfl | rfl
        · have HR : Hid (r = (chkT q 0 s && (chkT q 1 t && i))) := HR
          by_cases hl : 1024 < s.length
          · have g1 : decide ((1024 : Int) < (s.length : Int)) = true := by simp; omega
            have HN : Hid (r = false) := Lib.hid (by rw [HR.out]; unfold chkT; rw [show decide (s.length ≤ 1024) = false by simp; omega]; rfl)
            clear HR hl
            go_wp2_with fail
            go_ret
            exact ⟨by rw [HN.out]; rfl, HB.out⟩
          · have g1 : decide ((1024 : Int) < (s.length : Int)) = false := by simp; omega
            have hl2 : decide (s.length ≤ 1024) = true := by simp; omega
            cases hbt : bitB q 0 with
            | true =>
              have e1 : (bits .and .i64 (q : Int) 1 == 0) = false := (bitF_0 hq8).trans (by rw [hbt]; rfl)
              have HN : Hid (r = (chkT q 1 t && i)) := Lib.hid (by rw [HR.out]; unfold chkT; rw [hl2, hbt]; simp)
              clear hbt HR hl hl2
              go_wp2_with fail
              go_round
              case rel => exact ⟨1, by omega, by omega, rfl, HN⟩
              case measure => simp [intOf]
            | false =>
              have e1 : (bits .and .i64 (q : Int) 1 == 0) = true := (bitF_0 hq8).trans (by rw [hbt]; rfl)
              by_cases hx0 : s = []
              · have HN : Hid (r = (chkT q 1 t && i)) := Lib.hid (by rw [HR.out]; unfold chkT; rw [hl2, hbt, hx0]; simp)
                clear hbt HR hl hl2
                subst hx0
                go_wp2_with fail
                go_round
                case rel => exact ⟨1, by omega, by omega, rfl, HN⟩
                case measure => simp [intOf]
              · have x1 : s.isEmpty = false := by simpa using hx0
                have HN : Hid (r = false) := Lib.hid (by rw [HR.out]; unfold chkT; rw [hl2, hbt, x1]; simp)
                clear hbt HR hl hl2
                go_wp2_with fail
                go_ret
                exact ⟨by rw [HN.out]; rfl, HB.out⟩
        · have HR : Hid (r = (chkT q 1 t && i)) := HR
          by_cases hl : 1024 < t.length
          · have g1 : decide ((1024 : Int) < (t.length : Int)) = true := by simp; omega
            have HN : Hid (r = false) := Lib.hid (by rw [HR.out]; unfold chkT; rw [show decide (t.length ≤ 1024) = false by simp; omega]; rfl)
            clear HR hl
            go_wp2_with fail
            go_ret
            exact ⟨by rw [HN.out]; rfl, HB.out⟩
          · have g1 : decide ((1024 : Int) < (t.length : Int)) = false := by simp; omega
            have hl2 : decide (t.length ≤ 1024) = true := by simp; omega
            cases hbt : bitB q 1 with
            | true =>
              have e1 : (bits .and .i64 ((q : Int) / 2) 1 == 0) = false := (bitF_1 hq8).trans (by rw [hbt]; rfl)
              have HN : Hid (r = i) := Lib.hid (by rw [HR.out]; unfold chkT; rw [hl2, hbt]; simp)
              clear hbt HR hl hl2
              go_wp2_with fail
              go_round
              case rel => exact ⟨2, by omega, by omega, rfl, HN⟩
              case measure => simp [intOf]
            | false =>
              have e1 : (bits .and .i64 ((q : Int) / 2) 1 == 0) = true := (bitF_1 hq8).trans (by rw [hbt]; rfl)
              by_cases hx0 : t = []
              · have HN : Hid (r = i) := Lib.hid (by rw [HR.out]; unfold chkT; rw [hl2, hbt, hx0]; simp)
                clear hbt HR hl hl2
                subst hx0
                go_wp2_with fail
                go_round
                case rel => exact ⟨2, by omega, by omega, rfl, HN⟩
                case measure => simp [intOf]
              · have x1 : t.isEmpty = false := by simpa using hx0
                have HN : Hid (r = false) := Lib.hid (by rw [HR.out]; unfold chkT; rw [hl2, hbt, x1]; simp)
                clear hbt HR hl hl2
                go_wp2_with fail
                go_ret
                exact ⟨by rw [HN.out]; rfl, HB.out⟩
        · have HR : Hid (r = i) := HR
          go_wp2_with fail
          go_ret
          exact ⟨by rw [HR.out]; rfl, HB.out⟩
end Go.Proofs.YtfepinnfhcjopaaGreatDoor
