/-
  old.Check.
-/
import Derived.Test.YtedliepfaibefaaGreatDoorOlB
namespace Go.Proofs.YtedliepfaibefaaGreatDoor
open Go.RowKit Go.Nst
set_option maxRecDepth 100000
set_option linter.unusedVariables false
set_option linter.unusedSimpArgs false

set_option maxHeartbeats 8000000 in
theorem oldCheck_any (v k a b n : Int) (s t : List UInt8) (w : World) (hs : s.length ≤ 100000) (ht : t.length ≤ 100000) (hN : Nms w) : Calls Tryz.prog 23 #[.agg (OC v k a b n s t)] w fun e w' => e = .returned (.int .i64 (if Ol.ok ⟨v, k, a, b, n, s, t⟩ then 0 else 160)) ∧ Below w.heap.size w w' := by
  have HSH := Lib.hid (fun W h => shaped_any v k a b n s t W h)
  have hN0 := hN.below (bel_alloc (Below.refl w.heap.size w) (.cells (OC v k a b n s t) 25))
  have hob := Blk.new w 25 (OC v k a b n s t)
  have B0 := bel_alloc (Below.refl w.heap.size w) (.cells (OC v k a b n s t) 25)
  have hm8 := sN_lt v k
  have hq8 := sT_lt v k
  obtain ⟨r, hr⟩ : ∃ r, Ol.ok ⟨v, k, a, b, n, s, t⟩ = r := ⟨_, rfl⟩
  have HR0 : Hid (r = okN (sN v k) (sT v k) (sI v k) a b n s t 0) := Lib.hid hr.symm
  rw [hr]
  clear hr
  generalize hres : (if r = true then (0 : Int) else 160) = res
  have HRES := Lib.hid hres
  clear hres
  generalize sN v k = m at *
  generalize sT v k = q at *
  generalize sI v k = i at *
  simp only [OC] at *
  go_enter Tryz.func23, Tryz.ntmps23
  go_wp2_with fail
  (with_reducible refine (HSH.out _ hN0).mono ?_)
  rintro e w1 ⟨rfl, hb1⟩
  have hob1 := hob.below hb1 hob.lt
  have B1 := bel_step B0 hb1
  simp only [shV]
  clear hb1 hob B0
  go_wp2_with fail
  (with_reducible refine (oldFields_any _ _).mono ?_)
  rintro e w2 ⟨rfl, hb2⟩
  have hsh2 := (Blk.new w1 54 #[.int .i64 (m : Int), .int .i64 (q : Int), .bool i]).below hb2 (by simp)
  have hob2 := (hob1.alloc (.cells #[.int .i64 (m : Int), .int .i64 (q : Int), .bool i] 54)).below hb2 (by have := hob1.lt; simp; omega)
  have B2 := bel_step (bel_alloc B1 (.cells #[.int .i64 (m : Int), .int .i64 (q : Int), .bool i] 54)) hb2
  have HOS : Hid (OS w ((w2.alloc (.cells #[.pointer (some ⟨w.heap.size, 2, none⟩), .pointer (some ⟨w.heap.size, 3, none⟩), .pointer (some ⟨w.heap.size, 4, none⟩)] 57)).alloc (.cells #[.pointer (some ⟨w.heap.size, 5, none⟩), .pointer (some ⟨w.heap.size, 6, none⟩)] 59)) w1.heap.size (w2.heap.size + 1) #[.int .i64 v, .int .i64 k, .int .i64 a, .int .i64 b, .int .i64 n, .string ⟨s.toArray⟩, .string ⟨t.toArray⟩] m q i) := by
    refine ⟨(hob2.alloc _).alloc _, (hsh2.alloc _).alloc _, ?_, bel_alloc (bel_alloc B2 _) _⟩
    have := Blk.new (w2.alloc (.cells #[.pointer (some ⟨w.heap.size, 2, none⟩), .pointer (some ⟨w.heap.size, 3, none⟩), .pointer (some ⟨w.heap.size, 4, none⟩)] 57)) 59 #[.pointer (some ⟨w.heap.size, 5, none⟩), .pointer (some ⟨w.heap.size, 6, none⟩)]
    simpa using this
  clear hb2 hsh2 hob2 B2 hob1 B1
  go_wp2_with fail
  generalize w1.heap.size = gs at *
  generalize w2.heap.size + 1 = gt at *
  go_loopw [19] (fun x wr => ∃ (z : Int), 0 ≤ z ∧ z ≤ 3 ∧ x = .int .i64 z ∧ OS w wr gs gt #[.int .i64 v, .int .i64 k, .int .i64 a, .int .i64 b, .int .i64 n, .string ⟨s.toArray⟩, .string ⟨t.toArray⟩] m q i ∧ Hid (r = okN m q i a b n s t z.toNat)) (fun x _ => (3 - intOf x).toNat)
  case atStart => exact ⟨0, by omega, by omega, rfl, HOS.out, HR0⟩
  case round =>
    clear HOS HR0
    obtain ⟨z, hz0, hz3, rfl, hO, HR⟩ := hrel
    rcases (by omega : z = 0 ∨ z = 1 ∨ z = 2 ∨ z = 3) with rfl | rfl | rfl | rfl
    · have HR : Hid (r = (chkN m 0 a && (chkN m 1 b && (chkN m 2 n && okT q i s t 0)))) := HR
      have i0 := arrI_0
      have sc0 := hO.sh.cell 0
      have sc1 := hO.sh.cell 1
      have sc2 := hO.sh.cell 2
      simp at sc0 sc1 sc2
      have d1 := hO.ob.cell 2
      simp at d1
      have HB := Lib.hid hO.bel
      cases hmay : mayB a with
      | false =>
        have HR2 : Hid (r = false) := Lib.hid (by rw [HR.out]; unfold chkN; rw [hmay]; rfl)
        have HP := Lib.hid (fun W => put_no a W hmay)
        clear hmay HR hO
        go_wp2_with fail
        (with_reducible refine (HP.out _).mono ?_)
        rintro e w3 ⟨rfl, rfl⟩
        go_wp2_with fail
        go_ret
        exact ⟨by rw [← HRES.out, HR2.out]; rfl, HB.out⟩
      | true =>
        have HP := Lib.hid (fun W => put_yes a W hmay)
        generalize putL (zig a) = px at *
        have HOB := Lib.hid (fun W (h : Below wr.heap.size wr W) => hO.below h)
        clear hO
        cases hbt : bitB m 0 with
        | true =>
          have e1 : (bits .and .i64 (m : Int) 1 == 0) = false := (bitF_0 hm8).trans (by rw [hbt]; rfl)
          have HN : Hid (r = (chkN m 1 b && (chkN m 2 n && okT q i s t 0))) := Lib.hid (by rw [HR.out]; unfold chkN; rw [hmay, hbt]; simp)
          clear hmay hbt HR
          go_wp2_with fail
          (with_reducible refine (HP.out _).mono ?_)
          rintro e w3 ⟨A3, n3, c3, rfl, ho3, hb3⟩
          have hO3 := HOB.out w3 hb3
          have sd0 := hO3.sh.cell 0
          simp at sd0
          have dd1 := hO3.ob.cell 2
          simp at dd1
          have HO3 := Lib.hid hO3
          clear hb3 hO3 ho3
          go_wp2_with fail
          go_roundw
          case rel => exact ⟨1, by omega, by omega, rfl, HO3.out, HN⟩
          case measure => simp [intOf]
        | false =>
          have e1 : (bits .and .i64 (m : Int) 1 == 0) = true := (bitF_0 hm8).trans (by rw [hbt]; rfl)
          by_cases hx0 : a = 0
          · have HN : Hid (r = (chkN m 1 b && (chkN m 2 n && okT q i s t 0))) := Lib.hid (by rw [HR.out]; unfold chkN; rw [hmay, hbt, hx0]; simp)
            have e2 : (a != 0) = false := by simpa using hx0
            clear hmay hbt HR hx0
            go_wp2_with fail
            (with_reducible refine (HP.out _).mono ?_)
            rintro e w3 ⟨A3, n3, c3, rfl, ho3, hb3⟩
            have hO3 := HOB.out w3 hb3
            have sd0 := hO3.sh.cell 0
            simp at sd0
            have dd1 := hO3.ob.cell 2
            simp at dd1
            have HO3 := Lib.hid hO3
            clear hb3 hO3 ho3
            go_wp2_with fail
            go_roundw
            case rel => exact ⟨1, by omega, by omega, rfl, HO3.out, HN⟩
            case measure => simp [intOf]
          · have HN : Hid (r = false) := Lib.hid (by rw [HR.out]; unfold chkN; rw [hmay, hbt]; simp [hx0])
            have e2 : (a != 0) = true := by simpa using hx0
            clear hmay hbt HR hx0
            go_wp2_with fail
            (with_reducible refine (HP.out _).mono ?_)
            rintro e w3 ⟨A3, n3, c3, rfl, ho3, hb3⟩
            have hO3 := HOB.out w3 hb3
            have sd0 := hO3.sh.cell 0
            simp at sd0
            have dd1 := hO3.ob.cell 2
            simp at dd1
            have HO3 := Lib.hid hO3
            clear hb3 hO3 ho3
            go_wp2_with fail
            go_ret
            exact ⟨by rw [← HRES.out, HN.out]; rfl, HO3.out.bel⟩
    · have HR : Hid (r = (chkN m 1 b && (chkN m 2 n && okT q i s t 0))) := HR
      have i0 := arrI_1
      have sc0 := hO.sh.cell 0
      have sc1 := hO.sh.cell 1
      have sc2 := hO.sh.cell 2
      simp at sc0 sc1 sc2
      have d1 := hO.ob.cell 3
      simp at d1
      have HB := Lib.hid hO.bel
      cases hmay : mayB b with
      | false =>
        have HR2 : Hid (r = false) := Lib.hid (by rw [HR.out]; unfold chkN; rw [hmay]; rfl)
        have HP := Lib.hid (fun W => put_no b W hmay)
        clear hmay HR hO
        go_wp2_with fail
        (with_reducible refine (HP.out _).mono ?_)
        rintro e w3 ⟨rfl, rfl⟩
        go_wp2_with fail
        go_ret
        exact ⟨by rw [← HRES.out, HR2.out]; rfl, HB.out⟩
      | true =>
        have HP := Lib.hid (fun W => put_yes b W hmay)
        generalize putL (zig b) = px at *
        have HOB := Lib.hid (fun W (h : Below wr.heap.size wr W) => hO.below h)
        clear hO
        cases hbt : bitB m 1 with
        | true =>
          have e1 : (bits .and .i64 ((m : Int) / 2) 1 == 0) = false := (bitF_1 hm8).trans (by rw [hbt]; rfl)
          have HN : Hid (r = (chkN m 2 n && okT q i s t 0)) := Lib.hid (by rw [HR.out]; unfold chkN; rw [hmay, hbt]; simp)
          clear hmay hbt HR
          go_wp2_with fail
          (with_reducible refine (HP.out _).mono ?_)
          rintro e w3 ⟨A3, n3, c3, rfl, ho3, hb3⟩
          have hO3 := HOB.out w3 hb3
          have sd0 := hO3.sh.cell 0
          simp at sd0
          have dd1 := hO3.ob.cell 3
          simp at dd1
          have HO3 := Lib.hid hO3
          clear hb3 hO3 ho3
          go_wp2_with fail
          go_roundw
          case rel => exact ⟨2, by omega, by omega, rfl, HO3.out, HN⟩
          case measure => simp [intOf]
        | false =>
          have e1 : (bits .and .i64 ((m : Int) / 2) 1 == 0) = true := (bitF_1 hm8).trans (by rw [hbt]; rfl)
          by_cases hx0 : b = 0
          · have HN : Hid (r = (chkN m 2 n && okT q i s t 0)) := Lib.hid (by rw [HR.out]; unfold chkN; rw [hmay, hbt, hx0]; simp)
            have e2 : (b != 0) = false := by simpa using hx0
            clear hmay hbt HR hx0
            go_wp2_with fail
            (with_reducible refine (HP.out _).mono ?_)
            rintro e w3 ⟨A3, n3, c3, rfl, ho3, hb3⟩
            have hO3 := HOB.out w3 hb3
            have sd0 := hO3.sh.cell 0
            simp at sd0
            have dd1 := hO3.ob.cell 3
            simp at dd1
            have HO3 := Lib.hid hO3
            clear hb3 hO3 ho3
            go_wp2_with fail
            go_roundw
            case rel => exact ⟨2, by omega, by omega, rfl, HO3.out, HN⟩
            case measure => simp [intOf]
          · have HN : Hid (r = false) := Lib.hid (by rw [HR.out]; unfold chkN; rw [hmay, hbt]; simp [hx0])
            have e2 : (b != 0) = true := by simpa using hx0
            clear hmay hbt HR hx0
            go_wp2_with fail
            (with_reducible refine (HP.out _).mono ?_)
            rintro e w3 ⟨A3, n3, c3, rfl, ho3, hb3⟩
            have hO3 := HOB.out w3 hb3
            have sd0 := hO3.sh.cell 0
            simp at sd0
            have dd1 := hO3.ob.cell 3
            simp at dd1
            have HO3 := Lib.hid hO3
            clear hb3 hO3 ho3
            go_wp2_with fail
            go_ret
            exact ⟨by rw [← HRES.out, HN.out]; rfl, HO3.out.bel⟩
    · have HR : Hid (r = (chkN m 2 n && okT q i s t 0)) := HR
      have i0 := arrI_2
      have sc0 := hO.sh.cell 0
      have sc1 := hO.sh.cell 1
      have sc2 := hO.sh.cell 2
      simp at sc0 sc1 sc2
      have d1 := hO.ob.cell 4
      simp at d1
      have HB := Lib.hid hO.bel
      cases hmay : mayB n with
      | false =>
        have HR2 : Hid (r = false) := Lib.hid (by rw [HR.out]; unfold chkN; rw [hmay]; rfl)
        have HP := Lib.hid (fun W => put_no n W hmay)
        clear hmay HR hO
        go_wp2_with fail
        (with_reducible refine (HP.out _).mono ?_)
        rintro e w3 ⟨rfl, rfl⟩
        go_wp2_with fail
        go_ret
        exact ⟨by rw [← HRES.out, HR2.out]; rfl, HB.out⟩
      | true =>
        have HP := Lib.hid (fun W => put_yes n W hmay)
        generalize putL (zig n) = px at *
        have HOB := Lib.hid (fun W (h : Below wr.heap.size wr W) => hO.below h)
        clear hO
        cases hbt : bitB m 2 with
        | true =>
          have e1 : (bits .and .i64 ((m : Int) / 4) 1 == 0) = false := (bitF_2 hm8).trans (by rw [hbt]; rfl)
          have HN : Hid (r = okT q i s t 0) := Lib.hid (by rw [HR.out]; unfold chkN; rw [hmay, hbt]; simp)
          clear hmay hbt HR
          go_wp2_with fail
          (with_reducible refine (HP.out _).mono ?_)
          rintro e w3 ⟨A3, n3, c3, rfl, ho3, hb3⟩
          have hO3 := HOB.out w3 hb3
          have sd0 := hO3.sh.cell 0
          simp at sd0
          have dd1 := hO3.ob.cell 4
          simp at dd1
          have HO3 := Lib.hid hO3
          clear hb3 hO3 ho3
          go_wp2_with fail
          go_roundw
          case rel => exact ⟨3, by omega, by omega, rfl, HO3.out, HN⟩
          case measure => simp [intOf]
        | false =>
          have e1 : (bits .and .i64 ((m : Int) / 4) 1 == 0) = true := (bitF_2 hm8).trans (by rw [hbt]; rfl)
          by_cases hx0 : n = 0
          · have HN : Hid (r = okT q i s t 0) := Lib.hid (by rw [HR.out]; unfold chkN; rw [hmay, hbt, hx0]; simp)
            have e2 : (n != 0) = false := by simpa using hx0
            clear hmay hbt HR hx0
            go_wp2_with fail
            (with_reducible refine (HP.out _).mono ?_)
            rintro e w3 ⟨A3, n3, c3, rfl, ho3, hb3⟩
            have hO3 := HOB.out w3 hb3
            have sd0 := hO3.sh.cell 0
            simp at sd0
            have dd1 := hO3.ob.cell 4
            simp at dd1
            have HO3 := Lib.hid hO3
            clear hb3 hO3 ho3
            go_wp2_with fail
            go_roundw
            case rel => exact ⟨3, by omega, by omega, rfl, HO3.out, HN⟩
            case measure => simp [intOf]
          · have HN : Hid (r = false) := Lib.hid (by rw [HR.out]; unfold chkN; rw [hmay, hbt]; simp [hx0])
            have e2 : (n != 0) = true := by simpa using hx0
            clear hmay hbt HR hx0
            go_wp2_with fail
            (with_reducible refine (HP.out _).mono ?_)
            rintro e w3 ⟨A3, n3, c3, rfl, ho3, hb3⟩
            have hO3 := HOB.out w3 hb3
            have sd0 := hO3.sh.cell 0
            simp at sd0
            have dd1 := hO3.ob.cell 4
            simp at dd1
            have HO3 := Lib.hid hO3
            clear hb3 hO3 ho3
            go_wp2_with fail
            go_ret
            exact ⟨by rw [← HRES.out, HN.out]; rfl, HO3.out.bel⟩
    · have HR : Hid (r = okT q i s t 0) := HR
      have tc0 := hO.tx.cell 0
      have tc1 := hO.tx.cell 1
      simp at tc0 tc1
      have HO := Lib.hid hO
      obtain ⟨wo, rfl⟩ : ∃ wo : World, wo = wr := ⟨_, rfl⟩
      clear hO
      go_wp2_with fail
      clear tc0 tc1
      go_loopw [48] (fun x wr => ∃ (z : Int), 0 ≤ z ∧ z ≤ 2 ∧ x = .int .i64 z ∧ OS w wr gs gt #[.int .i64 v, .int .i64 k, .int .i64 a, .int .i64 b, .int .i64 n, .string ⟨s.toArray⟩, .string ⟨t.toArray⟩] m q i ∧ Hid (r = okT q i s t z.toNat)) (fun x _ => (2 - intOf x).toNat)
      case atStart => exact ⟨0, by omega, by omega, rfl, HO.out, HR⟩
      case round =>
        clear HO HR
        obtain ⟨z, hz0, hz3, rfl, hO, HR⟩ := hrel
        rcases (by omega : z = 0 ∨ z = 1 ∨ z = 2) with rfl | rfl | rfl
        · have HR : Hid (r = (chkT q 0 s && (chkT q 1 t && i))) := HR
          have i0 := arrO_0
          have sc0 := hO.sh.cell 0
          have sc1 := hO.sh.cell 1
          have sc2 := hO.sh.cell 2
          simp at sc0 sc1 sc2
          have d1 := hO.ob.cell 5
          simp at d1
          have HO := Lib.hid hO
          clear hO
          by_cases hl : 1024 < s.length
          · have g1 : decide ((1024 : Int) < (s.length : Int)) = true := by simp; omega
            have HN : Hid (r = false) := Lib.hid (by rw [HR.out]; unfold chkT; rw [show decide (s.length ≤ 1024) = false by simp; omega]; rfl)
            clear HR hl
            go_wp2_with fail
            go_ret
            exact ⟨by rw [← HRES.out, HN.out]; rfl, HO.out.bel⟩
          · have g1 : decide ((1024 : Int) < (s.length : Int)) = false := by simp; omega
            have hl2 : decide (s.length ≤ 1024) = true := by simp; omega
            cases hbt : bitB q 0 with
            | true =>
              have e1 : (bits .and .i64 (q : Int) 1 == 0) = false := (bitF_0 hq8).trans (by rw [hbt]; rfl)
              have HN : Hid (r = (chkT q 1 t && i)) := Lib.hid (by rw [HR.out]; unfold chkT; rw [hl2, hbt]; simp)
              clear hbt HR hl hl2
              go_wp2_with fail
              go_roundw
              case rel => exact ⟨1, by omega, by omega, rfl, HO.out, HN⟩
              case measure => simp [intOf]
            | false =>
              have e1 : (bits .and .i64 (q : Int) 1 == 0) = true := (bitF_0 hq8).trans (by rw [hbt]; rfl)
              by_cases hx0 : s = []
              · have HN : Hid (r = (chkT q 1 t && i)) := Lib.hid (by rw [HR.out]; unfold chkT; rw [hl2, hbt, hx0]; simp)
                have HX := Lib.hid hx0
                clear hbt HR hl hl2
                have x1 : s.isEmpty = true := by rw [hx0]; rfl
                go_wp2_with fail
                go_roundw
                case rel => exact ⟨1, by omega, by omega, rfl, HO.out, HN⟩
                case measure => simp [intOf]
              · have x1 : s.isEmpty = false := by simpa using hx0
                have HN : Hid (r = false) := Lib.hid (by rw [HR.out]; unfold chkT; rw [hl2, hbt, x1]; simp)
                clear hbt HR hl hl2
                go_wp2_with fail
                go_ret
                exact ⟨by rw [← HRES.out, HN.out]; rfl, HO.out.bel⟩
        · have HR : Hid (r = (chkT q 1 t && i)) := HR
          have i0 := arrO_1
          have sc0 := hO.sh.cell 0
          have sc1 := hO.sh.cell 1
          have sc2 := hO.sh.cell 2
          simp at sc0 sc1 sc2
          have d1 := hO.ob.cell 6
          simp at d1
          have HO := Lib.hid hO
          clear hO
          by_cases hl : 1024 < t.length
          · have g1 : decide ((1024 : Int) < (t.length : Int)) = true := by simp; omega
            have HN : Hid (r = false) := Lib.hid (by rw [HR.out]; unfold chkT; rw [show decide (t.length ≤ 1024) = false by simp; omega]; rfl)
            clear HR hl
            go_wp2_with fail
            go_ret
            exact ⟨by rw [← HRES.out, HN.out]; rfl, HO.out.bel⟩
          · have g1 : decide ((1024 : Int) < (t.length : Int)) = false := by simp; omega
            have hl2 : decide (t.length ≤ 1024) = true := by simp; omega
            cases hbt : bitB q 1 with
            | true =>
              have e1 : (bits .and .i64 ((q : Int) / 2) 1 == 0) = false := (bitF_1 hq8).trans (by rw [hbt]; rfl)
              have HN : Hid (r = i) := Lib.hid (by rw [HR.out]; unfold chkT; rw [hl2, hbt]; simp)
              clear hbt HR hl hl2
              go_wp2_with fail
              go_roundw
              case rel => exact ⟨2, by omega, by omega, rfl, HO.out, HN⟩
              case measure => simp [intOf]
            | false =>
              have e1 : (bits .and .i64 ((q : Int) / 2) 1 == 0) = true := (bitF_1 hq8).trans (by rw [hbt]; rfl)
              by_cases hx0 : t = []
              · have HN : Hid (r = i) := Lib.hid (by rw [HR.out]; unfold chkT; rw [hl2, hbt, hx0]; simp)
                have HX := Lib.hid hx0
                clear hbt HR hl hl2
                have x1 : t.isEmpty = true := by rw [hx0]; rfl
                go_wp2_with fail
                go_roundw
                case rel => exact ⟨2, by omega, by omega, rfl, HO.out, HN⟩
                case measure => simp [intOf]
              · have x1 : t.isEmpty = false := by simpa using hx0
                have HN : Hid (r = false) := Lib.hid (by rw [HR.out]; unfold chkT; rw [hl2, hbt, x1]; simp)
                clear hbt HR hl hl2
                go_wp2_with fail
                go_ret
                exact ⟨by rw [← HRES.out, HN.out]; rfl, HO.out.bel⟩
        · have HR : Hid (r = i) := HR
          have sc2 := hO.sh.cell 2
          simp at sc2
          have HB := Lib.hid hO.bel
          clear hO
          cases i with
          | true =>
            go_wp2_with fail
            go_ret
            exact ⟨by rw [← HRES.out, HR.out]; rfl, HB.out⟩
          | false =>
            go_wp2_with fail
            go_ret
            exact ⟨by rw [← HRES.out, HR.out]; rfl, HB.out⟩
end Go.Proofs.YtedliepfaibefaaGreatDoor
