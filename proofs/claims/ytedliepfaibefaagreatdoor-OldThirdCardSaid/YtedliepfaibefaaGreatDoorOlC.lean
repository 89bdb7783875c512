/-
  The plain law of older formats' bytes; old.Put, the reference's Put.
-/
import Derived.Test.YtedliepfaibefaaGreatDoorOlB2

namespace Go.Proofs.YtedliepfaibefaaGreatDoor
open Go.RowKit Go.Nst
set_option maxRecDepth 100000
set_option linter.unusedVariables false
set_option linter.unusedSimpArgs false

def olT (o : Ol) : List UInt8 := numsL (sN o.v o.k) o.a o.b o.n 3 ++ textsL (sT o.v o.k) o.s o.t [] 2
def olL (o : Ol) : List UInt8 := [UInt8.ofNat o.v.toNat, UInt8.ofNat o.k.toNat] ++ olT o
structure OlF (o : Ol) : Prop where
  v : o.v = 1 ∨ o.v = 2
  ka : 1 ≤ o.k
  kz : o.k ≤ 13
  a : mayB o.a = true
  b : mayB o.b = true
  n : mayB o.n = true
  s : o.s.length ≤ 1024
  t : o.t.length ≤ 1024
  a0 : bitB (sN o.v o.k) 0 = false → o.a = 0
  b0 : bitB (sN o.v o.k) 1 = false → o.b = 0
  n0 : bitB (sN o.v o.k) 2 = false → o.n = 0
  s0 : bitB (sT o.v o.k) 0 = false → o.s = []
  t0 : bitB (sT o.v o.k) 1 = false → o.t = []
theorem chkN_parts {m i : Nat} {x : Int} (h : chkN m i x = true) : mayB x = true ∧ (bitB m i = false → x = 0) := by
  unfold chkN at h
  rw [Bool.and_eq_true] at h
  refine ⟨h.1, fun hb => ?_⟩
  have h2 := h.2
  rw [hb] at h2
  simpa using h2
theorem chkT_parts {q i : Nat} {x : List UInt8} (h : chkT q i x = true) : x.length ≤ 1024 ∧ (bitB q i = false → x = []) := by
  unfold chkT at h
  rw [Bool.and_eq_true] at h
  refine ⟨by simpa using h.1, fun hb => ?_⟩
  have h2 := h.2
  rw [hb] at h2
  simpa using h2
theorem olF {o : Ol} (h : o.ok = true) : OlF o := by
  unfold Ol.ok okN okT at h
  simp only [Bool.and_eq_true] at h
  obtain ⟨h1, h2, h3, h4, h5, h6⟩ := h
  have g1 := chkN_parts h1
  have g2 := chkN_parts h2
  have g3 := chkN_parts h3
  have g4 := chkT_parts h4
  have g5 := chkT_parts h5
  have g6 : (o.v = 1 ∨ o.v = 2) ∧ 1 ≤ o.k ∧ o.k ≤ 13 := by
    unfold sI i1 i2 at h6
    by_cases e1 : o.v = 1
    · rw [if_pos e1] at h6; simp at h6; omega
    · rw [if_neg e1] at h6
      by_cases e2 : o.v = 2
      · rw [if_pos e2] at h6; simp at h6; omega
      · rw [if_neg e2] at h6; cases h6
  exact ⟨g6.1, g6.2.1, g6.2.2, g1.1, g2.1, g3.1, g4.1, g5.1, g1.2, g2.2, g3.2, g4.2, g5.2⟩
theorem OS.app {w w3 w' : World} {gs gt : Nat} {o : Array Value} {m q : Nat} {i : Bool} {base len c : Nat} {A : Option Addr} {l : List UInt8} (h : OS w w3 gs gt o m q i) (hO : Ow w3 base A len c l) (hg : w3.grownBy w' (Value.slice A len c).ownBlock) (hb : Below w.heap.size w3 w') : OS w w' gs gt o m q i :=
  ⟨h.ob.grown hg (ow_apart hO h.ob (by decide)), h.sh.grown hg (ow_apart hO h.sh (by decide)), h.tx.grown hg (ow_apart hO h.tx (by decide)), h.bel.trans hb⟩
theorem oldPut_no (o : Ol) (w : World) (hs : o.s.length ≤ 100000) (ht : o.t.length ≤ 100000) (hN : Nms w) (h0 : o.ok = false) : Calls Tryz.prog 22 #[.agg (OC o.v o.k o.a o.b o.n o.s o.t)] w fun r w' => r = .returned (.tuple #[.slice none 0 0, .int .i64 160]) ∧ Below w.heap.size w w' := by
  have HC := Lib.hid (fun W h => oldCheck_any o.v o.k o.a o.b o.n o.s o.t W hs ht h)
  rw [show Ol.ok ⟨o.v, o.k, o.a, o.b, o.n, o.s, o.t⟩ = false from h0] at HC
  have hN0 := hN.below (bel_alloc (Below.refl w.heap.size w) (.cells (OC o.v o.k o.a o.b o.n o.s o.t) 25))
  clear h0
  obtain ⟨v, k, a, b, n, s, t⟩ := o
  simp only [OC] at *
  go_enter Tryz.func22, Tryz.ntmps22
  go_wp2_with fail
  (with_reducible refine (HC.out _ hN0).mono ?_)
  rintro e w1 ⟨rfl, hb⟩
  go_wp2_with fail
  go_ret2
  exact ⟨rfl, bel_step (bel_alloc (Below.refl _ _) _) hb⟩
set_option maxHeartbeats 8000000 in
theorem oldPut_yes (o : Ol) (w : World) (hN : Nms w) (h0 : o.ok = true) : Calls Tryz.prog 22 #[.agg (OC o.v o.k o.a o.b o.n o.s o.t)] w (RetBE w (olL o) 0) := by
  have f := olF h0
  have HC := Lib.hid (fun W h => oldCheck_any o.v o.k o.a o.b o.n o.s o.t W (by have := f.s; omega) (by have := f.t; omega) h)
  rw [show Ol.ok ⟨o.v, o.k, o.a, o.b, o.n, o.s, o.t⟩ = true from h0] at HC
  clear h0
  have hN0 := hN.below (bel_alloc (Below.refl w.heap.size w) (.cells (OC o.v o.k o.a o.b o.n o.s o.t) 25))
  have hob := Blk.new w 25 (OC o.v o.k o.a o.b o.n o.s o.t)
  have B0 := bel_alloc (Below.refl w.heap.size w) (.cells (OC o.v o.k o.a o.b o.n o.s o.t) 25)
  obtain ⟨v, k, a, b, n, s, t⟩ := o
  obtain ⟨hv, ka, kz, ha, hb, hn, hs, ht, -, -, -, -, -⟩ := f
  have HSH := Lib.hid (fun W h => shaped_any v k a b n s t W h)
  simp only [OC] at *
  have hm8 := sN_lt v k
  have hq8 := sT_lt v k
  have HL : Hid ([UInt8.ofNat v.toNat, UInt8.ofNat k.toNat] ++ (numsL (sN v k) a b n 3 ++ textsL (sT v k) s t [] 2) = olL ⟨v, k, a, b, n, s, t⟩) := rfl
  generalize olL ⟨v, k, a, b, n, s, t⟩ = res at *
  generalize sN v k = m at *
  generalize sT v k = q at *
  generalize sI v k = i at *
  have v8 : ((UInt8.ofNat v.toNat).toNat : Int) = v := by rw [u8_of _ (by omega)]; omega
  have k8 : ((UInt8.ofNat k.toNat).toNat : Int) = k := by rw [u8_of _ (by omega)]; omega
  have V8 := Lib.hid (And.intro v8 k8)
  clear v8 k8
  have hv1 : 1 ≤ v := by omega
  have hv2 : v ≤ 2 := by omega
  clear hv
  go_enter Tryz.func22, Tryz.ntmps22
  go_wp2_with fail
  (with_reducible refine (HC.out _ hN0).mono ?_)
  rintro e w1 ⟨rfl, hb1⟩
  have hob1 := hob.below hb1 hob.lt
  have hN1 := hN0.below hb1
  have B1 := bel_step B0 hb1
  have o0 := hob1.cell 0
  have o1 := hob1.cell 1
  have o2 := hob1.cell 2
  have o3 := hob1.cell 3
  have o4 := hob1.cell 4
  have o5 := hob1.cell 5
  have o6 := hob1.cell 6
  simp at o0 o1 o2 o3 o4 o5 o6
  clear hb1 hob B0 hN0
  go_wp2_with fail
  (with_reducible refine (HSH.out _ hN1).mono ?_)
  rintro e w2 ⟨rfl, hb2⟩
  have hob2 := (hob1.below hb2 hob1.lt).alloc (.cells #[.int .i64 (m : Int), .int .i64 (q : Int), .bool i] 54)
  have hsh2 := Blk.new w2 54 #[.int .i64 (m : Int), .int .i64 (q : Int), .bool i]
  have B2 := bel_alloc (bel_step B1 hb2) (.cells #[.int .i64 (m : Int), .int .i64 (q : Int), .bool i] 54)
  have hO2 := Ow.made (base := w.heap.size) (w2.alloc (.cells #[.int .i64 (m : Int), .int .i64 (q : Int), .bool i] 54)) [UInt8.ofNat v.toNat, UInt8.ofNat k.toNat] #[.int .u8 v, .int .u8 k] (by simp only [bv, List.map_cons, List.map_nil, V8.out.1, V8.out.2]) (by unfold maxLen; simp) B2.size
  have hob2' := hob2.alloc (.cells #[.int .u8 v, .int .u8 k] 5)
  have hsh2' := hsh2.alloc (.cells #[.int .u8 v, .int .u8 k] 5)
  have B2' := bel_alloc B2 (.cells #[.int .u8 v, .int .u8 k] 5)
  simp only [shV]
  have p0 := hob2.cell 0
  have p1 := hob2.cell 1
  have p2 := hob2.cell 2
  have p3 := hob2.cell 3
  have p4 := hob2.cell 4
  have p5 := hob2.cell 5
  have p6 := hob2.cell 6
  simp at p0 p1 p2 p3 p4 p5 p6
  clear hb2 hob1 B1 hsh2 hob2 B2 hN1
  simp at hO2
  go_wp2_with fail
  (with_reducible refine (oldFields_any _ _).mono ?_)
  rintro e w3 ⟨rfl, hb3⟩
  have HS : Hid (OS w ((w3.alloc (.cells #[.pointer (some ⟨w.heap.size, 2, none⟩), .pointer (some ⟨w.heap.size, 3, none⟩), .pointer (some ⟨w.heap.size, 4, none⟩)] 57)).alloc (.cells #[.pointer (some ⟨w.heap.size, 5, none⟩), .pointer (some ⟨w.heap.size, 6, none⟩)] 59)) w2.heap.size (w3.heap.size + 1) #[.int .i64 v, .int .i64 k, .int .i64 a, .int .i64 b, .int .i64 n, .string ⟨s.toArray⟩, .string ⟨t.toArray⟩] m q i) := by
    refine ⟨((hob2'.below hb3 hob2'.lt).alloc _).alloc _, ((hsh2'.below hb3 hsh2'.lt).alloc _).alloc _, ?_, bel_alloc (bel_alloc (bel_step B2' hb3) _) _⟩
    have := Blk.new (w3.alloc (.cells #[.pointer (some ⟨w.heap.size, 2, none⟩), .pointer (some ⟨w.heap.size, 3, none⟩), .pointer (some ⟨w.heap.size, 4, none⟩)] 57)) 59 #[.pointer (some ⟨w.heap.size, 5, none⟩), .pointer (some ⟨w.heap.size, 6, none⟩)]
    simpa using this
  have HO : Hid (Ow ((w3.alloc (.cells #[.pointer (some ⟨w.heap.size, 2, none⟩), .pointer (some ⟨w.heap.size, 3, none⟩), .pointer (some ⟨w.heap.size, 4, none⟩)] 57)).alloc (.cells #[.pointer (some ⟨w.heap.size, 5, none⟩), .pointer (some ⟨w.heap.size, 6, none⟩)] 59)) w.heap.size (some ⟨w2.heap.size + 1, 0, none⟩) 2 2 ([UInt8.ofNat v.toNat, UInt8.ofNat k.toNat] ++ (numsL m a b n 0))) := Lib.hid (by
    have := hO2.below (bel_alloc (bel_alloc hb3 (.cells #[.pointer (some ⟨w.heap.size, 2, none⟩), .pointer (some ⟨w.heap.size, 3, none⟩), .pointer (some ⟨w.heap.size, 4, none⟩)] 57)) (.cells #[.pointer (some ⟨w.heap.size, 5, none⟩), .pointer (some ⟨w.heap.size, 6, none⟩)] 59))
    simpa [numsL] using this)
  clear hb3 hob2' hsh2' B2' hO2
  go_wp2_with fail
  generalize w2.heap.size = gs at *
  generalize w3.heap.size + 1 = gt at *
  go_loopw [6, 36] (fun x y wr => ∃ (z : Int) (A : Option Addr) (len c : Nat), 0 ≤ z ∧ z ≤ 3 ∧ y = .int .i64 z ∧ x = .slice A len c ∧ Ow wr w.heap.size A len c ([UInt8.ofNat v.toNat, UInt8.ofNat k.toNat] ++ (numsL m a b n z.toNat)) ∧ OS w wr gs gt #[.int .i64 v, .int .i64 k, .int .i64 a, .int .i64 b, .int .i64 n, .string ⟨s.toArray⟩, .string ⟨t.toArray⟩] m q i ∧ (len : Int) ≤ 2 + 11 * z) (fun _ y _ => (3 - intOf y).toNat)
  case atStart => exact ⟨0, _, 2, 2, by omega, by omega, rfl, rfl, HO.out, HS.out, by omega⟩
  case round =>
    clear HO HS
    obtain ⟨z, A, len, c, hz0, hz3, rfl, rfl, hO, hS, hlen⟩ := hrel
    rcases (by omega : z = 0 ∨ z = 1 ∨ z = 2 ∨ z = 3) with rfl | rfl | rfl | rfl
    · have hO : Ow wr w.heap.size A len c ([UInt8.ofNat v.toNat, UInt8.ofNat k.toNat] ++ (numsL m a b n 0)) := hO
      have i0 := arrI_0
      have sc := hS.sh.cell 0
      simp at sc
      have d1 := hS.ob.cell 2
      simp at d1
      cases hbt : bitB m 0 with
      | true =>
        have e1 : (bits .and .i64 (m : Int) 1 == 1) = true := (bitT_0 hm8).trans hbt
        have HN : Hid ([UInt8.ofNat v.toNat, UInt8.ofNat k.toNat] ++ (numsL m a b n 0) ++ putL (zig a) = [UInt8.ofNat v.toNat, UInt8.ofNat k.toNat] ++ (numsL m a b n 1)) := Lib.hid (by rw [numsL_0, selN_yes hbt]; simp)
        have HP := Lib.hid (fun W => put_yes a W ha)
        have hlp : (putL (zig a)).length ≤ 11 := (putL_len (zig a)).2
        clear hbt
        generalize [UInt8.ofNat v.toNat, UInt8.ofNat k.toNat] ++ (numsL m a b n 0) = l0 at *
        generalize hl1 : [UInt8.ofNat v.toNat, UInt8.ofNat k.toNat] ++ (numsL m a b n 1) = l1 at *
        have HL1 := Lib.hid hl1
        clear hl1
        generalize putL (zig a) = px at *
        have HS := Lib.hid hS
        clear hS
        go_wp2_with fail
        (with_reducible refine (HP.out wr).mono ?_)
        rintro e w3 ⟨A3, n3, c3, rfl, ho3, hb3⟩
        have hl3 := ho3.len
        have hn3 : n3 ≤ 11 := by omega
        clear hl3
        have hO3 := hO.below hb3
        have HS3 := Lib.hid (HS.out.below hb3)
        have hs3 : w.heap.size ≤ w3.heap.size := HS3.out.bel.size
        go_wp2_with (at_builtin; refine wpList_appBg _ iBytes rfl rfl rfl hO3 rfl ho3.bs (len + n3) l1 rfl HN.out (by omega) hs3 ?_; intro A' c' w' ho hb hg _)
        go_roundw
        case rel => exact ⟨1, A', len + n3, c', by omega, by omega, rfl, rfl, by rw [← HL1.out] at ho; exact ho, HS3.out.app hO3 hg hb, by omega⟩
        case measure => simp [intOf]
      | false =>
        have e1 : (bits .and .i64 (m : Int) 1 == 1) = false := (bitT_0 hm8).trans hbt
        have HN : Hid ([UInt8.ofNat v.toNat, UInt8.ofNat k.toNat] ++ (numsL m a b n 0) = [UInt8.ofNat v.toNat, UInt8.ofNat k.toNat] ++ (numsL m a b n 1)) := Lib.hid (by rw [numsL_0, selN_no hbt]; simp)
        rw [HN.out] at hO
        have HS := Lib.hid hS
        clear hbt HN hS
        go_wp2_with fail
        go_roundw
        case rel => exact ⟨1, A, len, c, by omega, by omega, rfl, rfl, hO, HS.out, by omega⟩
        case measure => simp [intOf]
    · have hO : Ow wr w.heap.size A len c ([UInt8.ofNat v.toNat, UInt8.ofNat k.toNat] ++ (numsL m a b n 1)) := hO
      have i0 := arrI_1
      have sc := hS.sh.cell 0
      simp at sc
      have d1 := hS.ob.cell 3
      simp at d1
      cases hbt : bitB m 1 with
      | true =>
        have e1 : (bits .and .i64 ((m : Int) / 2) 1 == 1) = true := (bitT_1 hm8).trans hbt
        have HN : Hid ([UInt8.ofNat v.toNat, UInt8.ofNat k.toNat] ++ (numsL m a b n 1) ++ putL (zig b) = [UInt8.ofNat v.toNat, UInt8.ofNat k.toNat] ++ (numsL m a b n 2)) := Lib.hid (by rw [numsL_1, selN_yes hbt]; simp)
        have HP := Lib.hid (fun W => put_yes b W hb)
        have hlp : (putL (zig b)).length ≤ 11 := (putL_len (zig b)).2
        clear hbt
        generalize [UInt8.ofNat v.toNat, UInt8.ofNat k.toNat] ++ (numsL m a b n 1) = l0 at *
        generalize hl1 : [UInt8.ofNat v.toNat, UInt8.ofNat k.toNat] ++ (numsL m a b n 2) = l1 at *
        have HL1 := Lib.hid hl1
        clear hl1
        generalize putL (zig b) = px at *
        have HS := Lib.hid hS
        clear hS
        go_wp2_with fail
        (with_reducible refine (HP.out wr).mono ?_)
        rintro e w3 ⟨A3, n3, c3, rfl, ho3, hb3⟩
        have hl3 := ho3.len
        have hn3 : n3 ≤ 11 := by omega
        clear hl3
        have hO3 := hO.below hb3
        have HS3 := Lib.hid (HS.out.below hb3)
        have hs3 : w.heap.size ≤ w3.heap.size := HS3.out.bel.size
        go_wp2_with (at_builtin; refine wpList_appBg _ iBytes rfl rfl rfl hO3 rfl ho3.bs (len + n3) l1 rfl HN.out (by omega) hs3 ?_; intro A' c' w' ho hb hg _)
        go_roundw
        case rel => exact ⟨2, A', len + n3, c', by omega, by omega, rfl, rfl, by rw [← HL1.out] at ho; exact ho, HS3.out.app hO3 hg hb, by omega⟩
        case measure => simp [intOf]
      | false =>
        have e1 : (bits .and .i64 ((m : Int) / 2) 1 == 1) = false := (bitT_1 hm8).trans hbt
        have HN : Hid ([UInt8.ofNat v.toNat, UInt8.ofNat k.toNat] ++ (numsL m a b n 1) = [UInt8.ofNat v.toNat, UInt8.ofNat k.toNat] ++ (numsL m a b n 2)) := Lib.hid (by rw [numsL_1, selN_no hbt]; simp)
        rw [HN.out] at hO
        have HS := Lib.hid hS
        clear hbt HN hS
        go_wp2_with fail
        go_roundw
        case rel => exact ⟨2, A, len, c, by omega, by omega, rfl, rfl, hO, HS.out, by omega⟩
        case measure => simp [intOf]
    · have hO : Ow wr w.heap.size A len c ([UInt8.ofNat v.toNat, UInt8.ofNat k.toNat] ++ (numsL m a b n 2)) := hO
      have i0 := arrI_2
      have sc := hS.sh.cell 0
      simp at sc
      have d1 := hS.ob.cell 4
      simp at d1
      cases hbt : bitB m 2 with
      | true =>
        have e1 : (bits .and .i64 ((m : Int) / 4) 1 == 1) = true := (bitT_2 hm8).trans hbt
        have HN : Hid ([UInt8.ofNat v.toNat, UInt8.ofNat k.toNat] ++ (numsL m a b n 2) ++ putL (zig n) = [UInt8.ofNat v.toNat, UInt8.ofNat k.toNat] ++ (numsL m a b n 3)) := Lib.hid (by rw [numsL_2, selN_yes hbt]; simp)
        have HP := Lib.hid (fun W => put_yes n W hn)
        have hlp : (putL (zig n)).length ≤ 11 := (putL_len (zig n)).2
        clear hbt
        generalize [UInt8.ofNat v.toNat, UInt8.ofNat k.toNat] ++ (numsL m a b n 2) = l0 at *
        generalize hl1 : [UInt8.ofNat v.toNat, UInt8.ofNat k.toNat] ++ (numsL m a b n 3) = l1 at *
        have HL1 := Lib.hid hl1
        clear hl1
        generalize putL (zig n) = px at *
        have HS := Lib.hid hS
        clear hS
        go_wp2_with fail
        (with_reducible refine (HP.out wr).mono ?_)
        rintro e w3 ⟨A3, n3, c3, rfl, ho3, hb3⟩
        have hl3 := ho3.len
        have hn3 : n3 ≤ 11 := by omega
        clear hl3
        have hO3 := hO.below hb3
        have HS3 := Lib.hid (HS.out.below hb3)
        have hs3 : w.heap.size ≤ w3.heap.size := HS3.out.bel.size
        go_wp2_with (at_builtin; refine wpList_appBg _ iBytes rfl rfl rfl hO3 rfl ho3.bs (len + n3) l1 rfl HN.out (by omega) hs3 ?_; intro A' c' w' ho hb hg _)
        go_roundw
        case rel => exact ⟨3, A', len + n3, c', by omega, by omega, rfl, rfl, by rw [← HL1.out] at ho; exact ho, HS3.out.app hO3 hg hb, by omega⟩
        case measure => simp [intOf]
      | false =>
        have e1 : (bits .and .i64 ((m : Int) / 4) 1 == 1) = false := (bitT_2 hm8).trans hbt
        have HN : Hid ([UInt8.ofNat v.toNat, UInt8.ofNat k.toNat] ++ (numsL m a b n 2) = [UInt8.ofNat v.toNat, UInt8.ofNat k.toNat] ++ (numsL m a b n 3)) := Lib.hid (by rw [numsL_2, selN_no hbt]; simp)
        rw [HN.out] at hO
        have HS := Lib.hid hS
        clear hbt HN hS
        go_wp2_with fail
        go_roundw
        case rel => exact ⟨3, A, len, c, by omega, by omega, rfl, rfl, hO, HS.out, by omega⟩
        case measure => simp [intOf]
    · have hO : Ow wr w.heap.size A len c ([UInt8.ofNat v.toNat, UInt8.ofNat k.toNat] ++ (numsL m a b n 3)) := hO
      have HO2 : Hid (Ow wr w.heap.size A len c ([UInt8.ofNat v.toNat, UInt8.ofNat k.toNat] ++ (numsL m a b n 3 ++ textsL q s t [] 0))) := Lib.hid (by simpa [textsL] using hO)
      have tc0 := hS.tx.cell 0
      have tc1 := hS.tx.cell 1
      simp at tc0 tc1
      have HS2 := Lib.hid hS
      obtain ⟨wo, rfl⟩ : ∃ wo : World, wo = wr := ⟨_, rfl⟩
      go_wp2_with fail
      clear hO hS tc0 tc1
      go_loopw [6, 58] (fun x y wr => ∃ (z : Int) (A : Option Addr) (len c : Nat), 0 ≤ z ∧ z ≤ 2 ∧ y = .int .i64 z ∧ x = .slice A len c ∧ Ow wr w.heap.size A len c ([UInt8.ofNat v.toNat, UInt8.ofNat k.toNat] ++ (numsL m a b n 3 ++ textsL q s t [] z.toNat)) ∧ OS w wr gs gt #[.int .i64 v, .int .i64 k, .int .i64 a, .int .i64 b, .int .i64 n, .string ⟨s.toArray⟩, .string ⟨t.toArray⟩] m q i ∧ (len : Int) ≤ 35 + 1100 * z) (fun _ y _ => (2 - intOf y).toNat)
      case atStart => exact ⟨0, A, len, c, by omega, by omega, rfl, rfl, HO2.out, HS2.out, by omega⟩
      case round =>
        clear HO2 HS2
        clear hlen
        obtain ⟨z, A, len, c, hz0, hz3, rfl, rfl, hO, hS, hlen⟩ := hrel
        rcases (by omega : z = 0 ∨ z = 1 ∨ z = 2) with rfl | rfl | rfl
        · have hO : Ow wr w.heap.size A len c ([UInt8.ofNat v.toNat, UInt8.ofNat k.toNat] ++ (numsL m a b n 3 ++ textsL q s t [] 0)) := hO
          have i0 := arrO_0
          have sc := hS.sh.cell 1
          simp at sc
          have d1 := hS.ob.cell 5
          simp at d1
          cases hbt : bitB q 0 with
          | true =>
            have e1 : (bits .and .i64 (q : Int) 1 == 1) = true := (bitT_0 hq8).trans hbt
            have HN : Hid ([UInt8.ofNat v.toNat, UInt8.ofNat k.toNat] ++ (numsL m a b n 3 ++ textsL q s t [] 0) ++ textL s = [UInt8.ofNat v.toNat, UInt8.ofNat k.toNat] ++ (numsL m a b n 3 ++ textsL q s t [] 1)) := Lib.hid (by rw [textsL_0, selT_yes hbt]; simp)
            have HP := Lib.hid (fun W => text_any s s.length rfl (by omega) W)
            have hlp : (textL s).length ≤ 1100 := by have := textL_len s; omega
            clear hbt
            generalize [UInt8.ofNat v.toNat, UInt8.ofNat k.toNat] ++ (numsL m a b n 3 ++ textsL q s t [] 0) = l0 at *
            generalize hl1 : [UInt8.ofNat v.toNat, UInt8.ofNat k.toNat] ++ (numsL m a b n 3 ++ textsL q s t [] 1) = l1 at *
            have HL1 := Lib.hid hl1
            clear hl1
            generalize textL s = px at *
            have HS := Lib.hid hS
            clear hS
            go_wp2_with fail
            (with_reducible refine (HP.out wr).mono ?_)
            rintro e w3 ⟨A3, n3, c3, rfl, ho3, hb3⟩
            have hl3 := ho3.len
            have hn3 : n3 ≤ 1100 := by omega
            clear hl3
            have hO3 := hO.below hb3
            have HS3 := Lib.hid (HS.out.below hb3)
            have hs3 : w.heap.size ≤ w3.heap.size := HS3.out.bel.size
            go_wp2_with (at_builtin; refine wpList_appBg _ iBytes rfl rfl rfl hO3 rfl ho3.bs (len + n3) l1 rfl HN.out (by omega) hs3 ?_; intro A' c' w' ho hb hg _)
            go_roundw
            case rel => exact ⟨1, A', len + n3, c', by omega, by omega, rfl, rfl, by rw [← HL1.out] at ho; exact ho, HS3.out.app hO3 hg hb, by omega⟩
            case measure => simp [intOf]
          | false =>
            have e1 : (bits .and .i64 (q : Int) 1 == 1) = false := (bitT_0 hq8).trans hbt
            have HN : Hid ([UInt8.ofNat v.toNat, UInt8.ofNat k.toNat] ++ (numsL m a b n 3 ++ textsL q s t [] 0) = [UInt8.ofNat v.toNat, UInt8.ofNat k.toNat] ++ (numsL m a b n 3 ++ textsL q s t [] 1)) := Lib.hid (by rw [textsL_0, selT_no hbt]; simp)
            rw [HN.out] at hO
            have HS := Lib.hid hS
            clear hbt HN hS
            go_wp2_with fail
            go_roundw
            case rel => exact ⟨1, A, len, c, by omega, by omega, rfl, rfl, hO, HS.out, by omega⟩
            case measure => simp [intOf]
        · have hO : Ow wr w.heap.size A len c ([UInt8.ofNat v.toNat, UInt8.ofNat k.toNat] ++ (numsL m a b n 3 ++ textsL q s t [] 1)) := hO
          have i0 := arrO_1
          have sc := hS.sh.cell 1
          simp at sc
          have d1 := hS.ob.cell 6
          simp at d1
          cases hbt : bitB q 1 with
          | true =>
            have e1 : (bits .and .i64 ((q : Int) / 2) 1 == 1) = true := (bitT_1 hq8).trans hbt
            have HN : Hid ([UInt8.ofNat v.toNat, UInt8.ofNat k.toNat] ++ (numsL m a b n 3 ++ textsL q s t [] 1) ++ textL t = [UInt8.ofNat v.toNat, UInt8.ofNat k.toNat] ++ (numsL m a b n 3 ++ textsL q s t [] 2)) := Lib.hid (by rw [textsL_1, selT_yes hbt]; simp)
            have HP := Lib.hid (fun W => text_any t t.length rfl (by omega) W)
            have hlp : (textL t).length ≤ 1100 := by have := textL_len t; omega
            clear hbt
            generalize [UInt8.ofNat v.toNat, UInt8.ofNat k.toNat] ++ (numsL m a b n 3 ++ textsL q s t [] 1) = l0 at *
            generalize hl1 : [UInt8.ofNat v.toNat, UInt8.ofNat k.toNat] ++ (numsL m a b n 3 ++ textsL q s t [] 2) = l1 at *
            have HL1 := Lib.hid hl1
            clear hl1
            generalize textL t = px at *
            have HS := Lib.hid hS
            clear hS
            go_wp2_with fail
            (with_reducible refine (HP.out wr).mono ?_)
            rintro e w3 ⟨A3, n3, c3, rfl, ho3, hb3⟩
            have hl3 := ho3.len
            have hn3 : n3 ≤ 1100 := by omega
            clear hl3
            have hO3 := hO.below hb3
            have HS3 := Lib.hid (HS.out.below hb3)
            have hs3 : w.heap.size ≤ w3.heap.size := HS3.out.bel.size
            go_wp2_with (at_builtin; refine wpList_appBg _ iBytes rfl rfl rfl hO3 rfl ho3.bs (len + n3) l1 rfl HN.out (by omega) hs3 ?_; intro A' c' w' ho hb hg _)
            go_roundw
            case rel => exact ⟨2, A', len + n3, c', by omega, by omega, rfl, rfl, by rw [← HL1.out] at ho; exact ho, HS3.out.app hO3 hg hb, by omega⟩
            case measure => simp [intOf]
          | false =>
            have e1 : (bits .and .i64 ((q : Int) / 2) 1 == 1) = false := (bitT_1 hq8).trans hbt
            have HN : Hid ([UInt8.ofNat v.toNat, UInt8.ofNat k.toNat] ++ (numsL m a b n 3 ++ textsL q s t [] 1) = [UInt8.ofNat v.toNat, UInt8.ofNat k.toNat] ++ (numsL m a b n 3 ++ textsL q s t [] 2)) := Lib.hid (by rw [textsL_1, selT_no hbt]; simp)
            rw [HN.out] at hO
            have HS := Lib.hid hS
            clear hbt HN hS
            go_wp2_with fail
            go_roundw
            case rel => exact ⟨2, A, len, c, by omega, by omega, rfl, rfl, hO, HS.out, by omega⟩
            case measure => simp [intOf]
        · have hO : Ow wr w.heap.size A len c ([UInt8.ofNat v.toNat, UInt8.ofNat k.toNat] ++ (numsL m a b n 3 ++ textsL q s t [] 2)) := hO
          rw [HL.out] at hO
          have HB := Lib.hid hS.bel
          clear hS
          go_wp2_with fail
          go_ret2
          exact ⟨A, len, c, rfl, hO, HB.out⟩
end Go.Proofs.YtedliepfaibefaaGreatDoor
