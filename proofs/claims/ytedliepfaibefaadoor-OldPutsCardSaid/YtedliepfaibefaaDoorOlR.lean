/-
  The reference's Put of what older formats tell.
-/
import Derived.Test.YtedliepfaibefaaDoorOlC
namespace Go.Proofs.YtedliepfaibefaaDoor
open Go.RowKit Go.Nst
set_option maxRecDepth 100000
set_option linter.unusedVariables false
set_option linter.unusedSimpArgs false

set_option maxHeartbeats 8000000 in
theorem refPut16_any (o : Ol) (w : World) (h0 : o.ok = true) : Calls Tryd.prog 10 #[.agg (OC o.v o.k o.a o.b o.n o.s o.t)] w (RetB w (olL o)) := by
  have f := olF h0
  clear h0
  obtain ⟨v, k, a, b, n, s, t⟩ := o
  obtain ⟨hv, ka, kz, ha, hb, hn, hs, ht, -, -, -, -, -⟩ := f
  simp only [OC] at *
  have HU := Lib.hid (fun W => refUses16_any v k W)
  have hm8 := sN_lt v k
  have hq8 := sT_lt v k
  have HL : Hid ([UInt8.ofNat v.toNat, UInt8.ofNat k.toNat] ++ (numsL (sN v k) a b n 3 ++ textsL (sT v k) s t [] 2) = olL ⟨v, k, a, b, n, s, t⟩) := rfl
  generalize olL ⟨v, k, a, b, n, s, t⟩ = res at *
  generalize sN v k = m at *
  generalize sT v k = q at *
  generalize sI v k = i at *
  have hv1 : 1 ≤ v := by omega
  have hv2 : v ≤ 2 := by omega
  clear hv
  have v8 : ((UInt8.ofNat v.toNat).toNat : Int) = v := by rw [u8_of _ (by omega)]; omega
  have k8 : ((UInt8.ofNat k.toNat).toNat : Int) = k := by rw [u8_of _ (by omega)]; omega
  have HO : Hid (Ow ((((w.alloc (.cells #[.int .i64 v, .int .i64 k, .int .i64 a, .int .i64 b, .int .i64 n, .string ⟨s.toArray⟩, .string ⟨t.toArray⟩] 23)).alloc (.cells #[.int .u8 v, .int .u8 k] 5)).alloc (.cells #[.int .i64 a, .int .i64 b, .int .i64 n] 3)).alloc (.cells #[.string ⟨s.toArray⟩, .string ⟨t.toArray⟩] 9)) w.heap.size (some ⟨w.heap.size + 1, 0, none⟩) 2 2 ([UInt8.ofNat v.toNat, UInt8.ofNat k.toNat] ++ (numsL m a b n 0))) := Lib.hid (by
    have := (Ow.made (base := w.heap.size) (w.alloc (.cells #[.int .i64 v, .int .i64 k, .int .i64 a, .int .i64 b, .int .i64 n, .string ⟨s.toArray⟩, .string ⟨t.toArray⟩] 23)) [UInt8.ofNat v.toNat, UInt8.ofNat k.toNat] #[.int .u8 v, .int .u8 k] (by simp only [bv, List.map_cons, List.map_nil, v8, k8]) (by unfold maxLen; simp) (by simp)).below (bel_alloc (bel_alloc (Below.refl _ _) (.cells #[.int .i64 a, .int .i64 b, .int .i64 n] 3)) (.cells #[.string ⟨s.toArray⟩, .string ⟨t.toArray⟩] 9))
    simpa [numsL] using this)
  have HB : Hid (Below w.heap.size w ((((w.alloc (.cells #[.int .i64 v, .int .i64 k, .int .i64 a, .int .i64 b, .int .i64 n, .string ⟨s.toArray⟩, .string ⟨t.toArray⟩] 23)).alloc (.cells #[.int .u8 v, .int .u8 k] 5)).alloc (.cells #[.int .i64 a, .int .i64 b, .int .i64 n] 3)).alloc (.cells #[.string ⟨s.toArray⟩, .string ⟨t.toArray⟩] 9))) := Lib.hid (bel_alloc (bel_alloc (bel_alloc (bel_alloc (Below.refl _ _) _) _) _) _)
  have HI : Hid (Blk ((((w.alloc (.cells #[.int .i64 v, .int .i64 k, .int .i64 a, .int .i64 b, .int .i64 n, .string ⟨s.toArray⟩, .string ⟨t.toArray⟩] 23)).alloc (.cells #[.int .u8 v, .int .u8 k] 5)).alloc (.cells #[.int .i64 a, .int .i64 b, .int .i64 n] 3)).alloc (.cells #[.string ⟨s.toArray⟩, .string ⟨t.toArray⟩] 9)) (w.heap.size + 1 + 1) 3 #[.int .i64 a, .int .i64 b, .int .i64 n]) := Lib.hid (by
    have := (Blk.new ((w.alloc (.cells #[.int .i64 v, .int .i64 k, .int .i64 a, .int .i64 b, .int .i64 n, .string ⟨s.toArray⟩, .string ⟨t.toArray⟩] 23)).alloc (.cells #[.int .u8 v, .int .u8 k] 5)) 3 #[.int .i64 a, .int .i64 b, .int .i64 n]).alloc (.cells #[.string ⟨s.toArray⟩, .string ⟨t.toArray⟩] 9)
    simpa using this)
  have HT : Hid (Blk ((((w.alloc (.cells #[.int .i64 v, .int .i64 k, .int .i64 a, .int .i64 b, .int .i64 n, .string ⟨s.toArray⟩, .string ⟨t.toArray⟩] 23)).alloc (.cells #[.int .u8 v, .int .u8 k] 5)).alloc (.cells #[.int .i64 a, .int .i64 b, .int .i64 n] 3)).alloc (.cells #[.string ⟨s.toArray⟩, .string ⟨t.toArray⟩] 9)) (w.heap.size + 1 + 1 + 1) 9 #[.string ⟨s.toArray⟩, .string ⟨t.toArray⟩]) := Lib.hid (by
    have := Blk.new (((w.alloc (.cells #[.int .i64 v, .int .i64 k, .int .i64 a, .int .i64 b, .int .i64 n, .string ⟨s.toArray⟩, .string ⟨t.toArray⟩] 23)).alloc (.cells #[.int .u8 v, .int .u8 k] 5)).alloc (.cells #[.int .i64 a, .int .i64 b, .int .i64 n] 3)) 9 #[.string ⟨s.toArray⟩, .string ⟨t.toArray⟩]
    simpa using this)
  clear v8 k8
  go_enter Tryd.func10, Tryd.ntmps10
  go_wp2_with fail
  (with_reducible refine (HU.out _).mono ?_)
  rintro e w2 ⟨rfl, rfl⟩
  go_wp2_with fail
  go_loopw [6, 9] (fun x y wr => ∃ (z : Int) (A : Option Addr) (len c : Nat), 0 ≤ z ∧ z ≤ 3 ∧ y = .int .i64 z ∧ x = .slice A len c ∧ Ow wr w.heap.size A len c ([UInt8.ofNat v.toNat, UInt8.ofNat k.toNat] ++ (numsL m a b n z.toNat)) ∧ Below w.heap.size w wr ∧ Blk wr (w.heap.size + 1 + 1) 3 #[.int .i64 a, .int .i64 b, .int .i64 n] ∧ Blk wr (w.heap.size + 1 + 1 + 1) 9 #[.string ⟨s.toArray⟩, .string ⟨t.toArray⟩] ∧ (len : Int) ≤ 2 + 11 * z) (fun _ y _ => (3 - intOf y).toNat)
  case atStart => exact ⟨0, _, 2, 2, by omega, by omega, rfl, rfl, HO.out, HB.out, HI.out, HT.out, by omega⟩
  case round =>
    clear HO HB HI HT
    obtain ⟨z, A, len, c, hz0, hz3, rfl, rfl, hO, hB, hI, hT, hlen⟩ := hrel
    rcases (by omega : z = 0 ∨ z = 1 ∨ z = 2 ∨ z = 3) with rfl | rfl | rfl | rfl
    · have hO : Ow wr w.heap.size A len c ([UInt8.ofNat v.toNat, UInt8.ofNat k.toNat] ++ (numsL m a b n 0)) := hO
      have d1 := hI.cell 0
      simp at d1
      cases hbt : bitB m 0 with
      | true =>
        have e1 : (bits .and .i64 (m : Int) 1 == 1) = true := (bitT_0 hm8).trans hbt
        have HN : Hid ([UInt8.ofNat v.toNat, UInt8.ofNat k.toNat] ++ (numsL m a b n 0) ++ putL (zig a) = [UInt8.ofNat v.toNat, UInt8.ofNat k.toNat] ++ (numsL m a b n 1)) := Lib.hid (by rw [numsL_0, selN_yes hbt]; simp)
        have HP := Lib.hid (fun W => refPut_any a W ha)
        have hlp : (putL (zig a)).length ≤ 11 := (putL_len (zig a)).2
        clear hbt
        generalize [UInt8.ofNat v.toNat, UInt8.ofNat k.toNat] ++ (numsL m a b n 0) = l0 at *
        generalize hl1 : [UInt8.ofNat v.toNat, UInt8.ofNat k.toNat] ++ (numsL m a b n 1) = l1 at *
        have HL1 := Lib.hid hl1
        clear hl1
        generalize putL (zig a) = px at *
        go_wp2_with fail
        (with_reducible refine (HP.out wr).mono ?_)
        rintro e w3 ⟨A3, n3, c3, rfl, ho3, hb3⟩
        have hl3 := ho3.len
        have hn3 : n3 ≤ 11 := by omega
        clear hl3
        have hO3 := hO.below hb3
        have B3 := bel_step hB hb3
        have hI3 := hI.below hb3 hI.lt
        have hT3 := hT.below hb3 hT.lt
        have hs3 : w.heap.size ≤ w3.heap.size := B3.size
        go_wp2_with (at_builtin; refine wpList_appBg _ iBytes rfl rfl rfl hO3 rfl ho3.bs (len + n3) l1 rfl HN.out (by omega) hs3 ?_; intro A' c' w' ho hb hg _)
        go_roundw
        case rel => exact ⟨1, A', len + n3, c', by omega, by omega, rfl, rfl, by rw [← HL1.out] at ho; exact ho, B3.trans hb, hI3.grown hg (ow_apart hO3 hI3 (by decide)), hT3.grown hg (ow_apart hO3 hT3 (by decide)), by omega⟩
        case measure => simp [intOf]
      | false =>
        have e1 : (bits .and .i64 (m : Int) 1 == 1) = false := (bitT_0 hm8).trans hbt
        have HN : Hid ([UInt8.ofNat v.toNat, UInt8.ofNat k.toNat] ++ (numsL m a b n 0) = [UInt8.ofNat v.toNat, UInt8.ofNat k.toNat] ++ (numsL m a b n 1)) := Lib.hid (by rw [numsL_0, selN_no hbt]; simp)
        rw [HN.out] at hO
        clear hbt HN
        go_wp2_with fail
        go_roundw
        case rel => exact ⟨1, A, len, c, by omega, by omega, rfl, rfl, hO, hB, hI, hT, by omega⟩
        case measure => simp [intOf]
    · have hO : Ow wr w.heap.size A len c ([UInt8.ofNat v.toNat, UInt8.ofNat k.toNat] ++ (numsL m a b n 1)) := hO
      have d1 := hI.cell 1
      simp at d1
      cases hbt : bitB m 1 with
      | true =>
        have e1 : (bits .and .i64 ((m : Int) / 2) 1 == 1) = true := (bitT_1 hm8).trans hbt
        have HN : Hid ([UInt8.ofNat v.toNat, UInt8.ofNat k.toNat] ++ (numsL m a b n 1) ++ putL (zig b) = [UInt8.ofNat v.toNat, UInt8.ofNat k.toNat] ++ (numsL m a b n 2)) := Lib.hid (by rw [numsL_1, selN_yes hbt]; simp)
        have HP := Lib.hid (fun W => refPut_any b W hb)
        have hlp : (putL (zig b)).length ≤ 11 := (putL_len (zig b)).2
        clear hbt
        generalize [UInt8.ofNat v.toNat, UInt8.ofNat k.toNat] ++ (numsL m a b n 1) = l0 at *
        generalize hl1 : [UInt8.ofNat v.toNat, UInt8.ofNat k.toNat] ++ (numsL m a b n 2) = l1 at *
        have HL1 := Lib.hid hl1
        clear hl1
        generalize putL (zig b) = px at *
        go_wp2_with fail
        (with_reducible refine (HP.out wr).mono ?_)
        rintro e w3 ⟨A3, n3, c3, rfl, ho3, hb3⟩
        have hl3 := ho3.len
        have hn3 : n3 ≤ 11 := by omega
        clear hl3
        have hO3 := hO.below hb3
        have B3 := bel_step hB hb3
        have hI3 := hI.below hb3 hI.lt
        have hT3 := hT.below hb3 hT.lt
        have hs3 : w.heap.size ≤ w3.heap.size := B3.size
        go_wp2_with (at_builtin; refine wpList_appBg _ iBytes rfl rfl rfl hO3 rfl ho3.bs (len + n3) l1 rfl HN.out (by omega) hs3 ?_; intro A' c' w' ho hb hg _)
        go_roundw
        case rel => exact ⟨2, A', len + n3, c', by omega, by omega, rfl, rfl, by rw [← HL1.out] at ho; exact ho, B3.trans hb, hI3.grown hg (ow_apart hO3 hI3 (by decide)), hT3.grown hg (ow_apart hO3 hT3 (by decide)), by omega⟩
        case measure => simp [intOf]
      | false =>
        have e1 : (bits .and .i64 ((m : Int) / 2) 1 == 1) = false := (bitT_1 hm8).trans hbt
        have HN : Hid ([UInt8.ofNat v.toNat, UInt8.ofNat k.toNat] ++ (numsL m a b n 1) = [UInt8.ofNat v.toNat, UInt8.ofNat k.toNat] ++ (numsL m a b n 2)) := Lib.hid (by rw [numsL_1, selN_no hbt]; simp)
        rw [HN.out] at hO
        clear hbt HN
        go_wp2_with fail
        go_roundw
        case rel => exact ⟨2, A, len, c, by omega, by omega, rfl, rfl, hO, hB, hI, hT, by omega⟩
        case measure => simp [intOf]
    · have hO : Ow wr w.heap.size A len c ([UInt8.ofNat v.toNat, UInt8.ofNat k.toNat] ++ (numsL m a b n 2)) := hO
      have d1 := hI.cell 2
      simp at d1
      cases hbt : bitB m 2 with
      | true =>
        have e1 : (bits .and .i64 ((m : Int) / 4) 1 == 1) = true := (bitT_2 hm8).trans hbt
        have HN : Hid ([UInt8.ofNat v.toNat, UInt8.ofNat k.toNat] ++ (numsL m a b n 2) ++ putL (zig n) = [UInt8.ofNat v.toNat, UInt8.ofNat k.toNat] ++ (numsL m a b n 3)) := Lib.hid (by rw [numsL_2, selN_yes hbt]; simp)
        have HP := Lib.hid (fun W => refPut_any n W hn)
        have hlp : (putL (zig n)).length ≤ 11 := (putL_len (zig n)).2
        clear hbt
        generalize [UInt8.ofNat v.toNat, UInt8.ofNat k.toNat] ++ (numsL m a b n 2) = l0 at *
        generalize hl1 : [UInt8.ofNat v.toNat, UInt8.ofNat k.toNat] ++ (numsL m a b n 3) = l1 at *
        have HL1 := Lib.hid hl1
        clear hl1
        generalize putL (zig n) = px at *
        go_wp2_with fail
        (with_reducible refine (HP.out wr).mono ?_)
        rintro e w3 ⟨A3, n3, c3, rfl, ho3, hb3⟩
        have hl3 := ho3.len
        have hn3 : n3 ≤ 11 := by omega
        clear hl3
        have hO3 := hO.below hb3
        have B3 := bel_step hB hb3
        have hI3 := hI.below hb3 hI.lt
        have hT3 := hT.below hb3 hT.lt
        have hs3 : w.heap.size ≤ w3.heap.size := B3.size
        go_wp2_with (at_builtin; refine wpList_appBg _ iBytes rfl rfl rfl hO3 rfl ho3.bs (len + n3) l1 rfl HN.out (by omega) hs3 ?_; intro A' c' w' ho hb hg _)
        go_roundw
        case rel => exact ⟨3, A', len + n3, c', by omega, by omega, rfl, rfl, by rw [← HL1.out] at ho; exact ho, B3.trans hb, hI3.grown hg (ow_apart hO3 hI3 (by decide)), hT3.grown hg (ow_apart hO3 hT3 (by decide)), by omega⟩
        case measure => simp [intOf]
      | false =>
        have e1 : (bits .and .i64 ((m : Int) / 4) 1 == 1) = false := (bitT_2 hm8).trans hbt
        have HN : Hid ([UInt8.ofNat v.toNat, UInt8.ofNat k.toNat] ++ (numsL m a b n 2) = [UInt8.ofNat v.toNat, UInt8.ofNat k.toNat] ++ (numsL m a b n 3)) := Lib.hid (by rw [numsL_2, selN_no hbt]; simp)
        rw [HN.out] at hO
        clear hbt HN
        go_wp2_with fail
        go_roundw
        case rel => exact ⟨3, A, len, c, by omega, by omega, rfl, rfl, hO, hB, hI, hT, by omega⟩
        case measure => simp [intOf]
    · have hO : Ow wr w.heap.size A len c ([UInt8.ofNat v.toNat, UInt8.ofNat k.toNat] ++ (numsL m a b n 3)) := hO
      have HO2 : Hid (Ow wr w.heap.size A len c ([UInt8.ofNat v.toNat, UInt8.ofNat k.toNat] ++ (numsL m a b n 3 ++ textsL q s t [] 0))) := Lib.hid (by simpa [textsL] using hO)
      have HB2 := Lib.hid hB
      have HT2 := Lib.hid hT
      obtain ⟨wo, rfl⟩ : ∃ wo : World, wo = wr := ⟨_, rfl⟩
      go_wp2_with fail
      clear hO hB hI hT
      go_loopw [6, 10] (fun x y wr => ∃ (z : Int) (A : Option Addr) (len c : Nat), 0 ≤ z ∧ z ≤ 2 ∧ y = .int .i64 z ∧ x = .slice A len c ∧ Ow wr w.heap.size A len c ([UInt8.ofNat v.toNat, UInt8.ofNat k.toNat] ++ (numsL m a b n 3 ++ textsL q s t [] z.toNat)) ∧ Below w.heap.size w wr ∧ Blk wr (w.heap.size + 1 + 1 + 1) 9 #[.string ⟨s.toArray⟩, .string ⟨t.toArray⟩] ∧ (len : Int) ≤ 35 + 1100 * z) (fun _ y _ => (2 - intOf y).toNat)
      case atStart => exact ⟨0, A, len, c, by omega, by omega, rfl, rfl, HO2.out, HB2.out, HT2.out, by omega⟩
      case round =>
        clear HO2 HB2 HT2
        clear hlen
        obtain ⟨z, A, len, c, hz0, hz3, rfl, rfl, hO, hB, hT, hlen⟩ := hrel
        rcases (by omega : z = 0 ∨ z = 1 ∨ z = 2) with rfl | rfl | rfl
        · have hO : Ow wr w.heap.size A len c ([UInt8.ofNat v.toNat, UInt8.ofNat k.toNat] ++ (numsL m a b n 3 ++ textsL q s t [] 0)) := hO
          have d1 := hT.cell 0
          simp at d1
          cases hbt : bitB q 0 with
          | true =>
            have e1 : (bits .and .i64 (q : Int) 1 == 1) = true := (bitT_0 hq8).trans hbt
            have HN : Hid ([UInt8.ofNat v.toNat, UInt8.ofNat k.toNat] ++ (numsL m a b n 3 ++ textsL q s t [] 0) ++ textL s = [UInt8.ofNat v.toNat, UInt8.ofNat k.toNat] ++ (numsL m a b n 3 ++ textsL q s t [] 1)) := Lib.hid (by rw [textsL_0, selT_yes hbt]; simp)
            have HP := Lib.hid (fun W => refText1_any s s.length rfl (by omega) W)
            have hlp : (textL s).length ≤ 1100 := by have := textL_len s; omega
            clear hbt
            generalize [UInt8.ofNat v.toNat, UInt8.ofNat k.toNat] ++ (numsL m a b n 3 ++ textsL q s t [] 0) = l0 at *
            generalize hl1 : [UInt8.ofNat v.toNat, UInt8.ofNat k.toNat] ++ (numsL m a b n 3 ++ textsL q s t [] 1) = l1 at *
            have HL1 := Lib.hid hl1
            clear hl1
            generalize textL s = px at *
            go_wp2_with fail
            (with_reducible refine (HP.out wr).mono ?_)
            rintro e w3 ⟨A3, n3, c3, rfl, ho3, hb3⟩
            have hl3 := ho3.len
            have hn3 : n3 ≤ 1100 := by omega
            clear hl3
            have hO3 := hO.below hb3
            have B3 := bel_step hB hb3
            have hT3 := hT.below hb3 hT.lt
            have hs3 : w.heap.size ≤ w3.heap.size := B3.size
            go_wp2_with (at_builtin; refine wpList_appBg _ iBytes rfl rfl rfl hO3 rfl ho3.bs (len + n3) l1 rfl HN.out (by omega) hs3 ?_; intro A' c' w' ho hb hg _)
            go_roundw
            case rel => exact ⟨1, A', len + n3, c', by omega, by omega, rfl, rfl, by rw [← HL1.out] at ho; exact ho, B3.trans hb, hT3.grown hg (ow_apart hO3 hT3 (by decide)), by omega⟩
            case measure => simp [intOf]
          | false =>
            have e1 : (bits .and .i64 (q : Int) 1 == 1) = false := (bitT_0 hq8).trans hbt
            have HN : Hid ([UInt8.ofNat v.toNat, UInt8.ofNat k.toNat] ++ (numsL m a b n 3 ++ textsL q s t [] 0) = [UInt8.ofNat v.toNat, UInt8.ofNat k.toNat] ++ (numsL m a b n 3 ++ textsL q s t [] 1)) := Lib.hid (by rw [textsL_0, selT_no hbt]; simp)
            rw [HN.out] at hO
            clear hbt HN
            go_wp2_with fail
            go_roundw
            case rel => exact ⟨1, A, len, c, by omega, by omega, rfl, rfl, hO, hB, hT, by omega⟩
            case measure => simp [intOf]
        · have hO : Ow wr w.heap.size A len c ([UInt8.ofNat v.toNat, UInt8.ofNat k.toNat] ++ (numsL m a b n 3 ++ textsL q s t [] 1)) := hO
          have d1 := hT.cell 1
          simp at d1
          cases hbt : bitB q 1 with
          | true =>
            have e1 : (bits .and .i64 ((q : Int) / 2) 1 == 1) = true := (bitT_1 hq8).trans hbt
            have HN : Hid ([UInt8.ofNat v.toNat, UInt8.ofNat k.toNat] ++ (numsL m a b n 3 ++ textsL q s t [] 1) ++ textL t = [UInt8.ofNat v.toNat, UInt8.ofNat k.toNat] ++ (numsL m a b n 3 ++ textsL q s t [] 2)) := Lib.hid (by rw [textsL_1, selT_yes hbt]; simp)
            have HP := Lib.hid (fun W => refText1_any t t.length rfl (by omega) W)
            have hlp : (textL t).length ≤ 1100 := by have := textL_len t; omega
            clear hbt
            generalize [UInt8.ofNat v.toNat, UInt8.ofNat k.toNat] ++ (numsL m a b n 3 ++ textsL q s t [] 1) = l0 at *
            generalize hl1 : [UInt8.ofNat v.toNat, UInt8.ofNat k.toNat] ++ (numsL m a b n 3 ++ textsL q s t [] 2) = l1 at *
            have HL1 := Lib.hid hl1
            clear hl1
            generalize textL t = px at *
            go_wp2_with fail
            (with_reducible refine (HP.out wr).mono ?_)
            rintro e w3 ⟨A3, n3, c3, rfl, ho3, hb3⟩
            have hl3 := ho3.len
            have hn3 : n3 ≤ 1100 := by omega
            clear hl3
            have hO3 := hO.below hb3
            have B3 := bel_step hB hb3
            have hT3 := hT.below hb3 hT.lt
            have hs3 : w.heap.size ≤ w3.heap.size := B3.size
            go_wp2_with (at_builtin; refine wpList_appBg _ iBytes rfl rfl rfl hO3 rfl ho3.bs (len + n3) l1 rfl HN.out (by omega) hs3 ?_; intro A' c' w' ho hb hg _)
            go_roundw
            case rel => exact ⟨2, A', len + n3, c', by omega, by omega, rfl, rfl, by rw [← HL1.out] at ho; exact ho, B3.trans hb, hT3.grown hg (ow_apart hO3 hT3 (by decide)), by omega⟩
            case measure => simp [intOf]
          | false =>
            have e1 : (bits .and .i64 ((q : Int) / 2) 1 == 1) = false := (bitT_1 hq8).trans hbt
            have HN : Hid ([UInt8.ofNat v.toNat, UInt8.ofNat k.toNat] ++ (numsL m a b n 3 ++ textsL q s t [] 1) = [UInt8.ofNat v.toNat, UInt8.ofNat k.toNat] ++ (numsL m a b n 3 ++ textsL q s t [] 2)) := Lib.hid (by rw [textsL_1, selT_no hbt]; simp)
            rw [HN.out] at hO
            clear hbt HN
            go_wp2_with fail
            go_roundw
            case rel => exact ⟨2, A, len, c, by omega, by omega, rfl, rfl, hO, hB, hT, by omega⟩
            case measure => simp [intOf]
        · have hO : Ow wr w.heap.size A len c ([UInt8.ofNat v.toNat, UInt8.ofNat k.toNat] ++ (numsL m a b n 3 ++ textsL q s t [] 2)) := hO
          rw [HL.out] at hO
          go_wp2_with fail
          go_ret
          exact ⟨A, len, c, rfl, hO, hB⟩
end Go.Proofs.YtedliepfaibefaaDoor
