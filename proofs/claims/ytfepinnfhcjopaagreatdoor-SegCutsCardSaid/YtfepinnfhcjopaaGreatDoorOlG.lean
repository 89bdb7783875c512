/-
  old.Get.
-/
import Derived.Test.YtfepinnfhcjopaaGreatDoorOlA

import Derived.Test.YtfepinnfhcjopaaGreatDoorCdY
namespace Go.Proofs.YtfepinnfhcjopaaGreatDoor
open Go.RowKit Go.Nst
set_option maxRecDepth 100000
set_option linter.unusedVariables false
set_option linter.unusedSimpArgs false

def rdOl (s : RS) : Ol × RS :=
  (⟨(s.byte.1 : Int), (s.byte.2.byte.1 : Int), vaN (sN (s.byte.1 : Int) (s.byte.2.byte.1 : Int)) s.byte.2.byte.2 0, vaN (sN (s.byte.1 : Int) (s.byte.2.byte.1 : Int)) s.byte.2.byte.2 1, vaN (sN (s.byte.1 : Int) (s.byte.2.byte.1 : Int)) s.byte.2.byte.2 2,
    vaT (sT (s.byte.1 : Int) (s.byte.2.byte.1 : Int)) (stN (sN (s.byte.1 : Int) (s.byte.2.byte.1 : Int)) s.byte.2.byte.2 3) 0, vaT (sT (s.byte.1 : Int) (s.byte.2.byte.1 : Int)) (stN (sN (s.byte.1 : Int) (s.byte.2.byte.1 : Int)) s.byte.2.byte.2 3) 1⟩,
   stT (sT (s.byte.1 : Int) (s.byte.2.byte.1 : Int)) (stN (sN (s.byte.1 : Int) (s.byte.2.byte.1 : Int)) s.byte.2.byte.2 3) 2)
def getO (l : List UInt8) : Option Ol :=
  if (rdOl ⟨l, false⟩).2.bad = false ∧ (rdOl ⟨l, false⟩).2.l = [] ∧ (rdOl ⟨l, false⟩).1.ok = true then some (rdOl ⟨l, false⟩).1 else none
theorem oc_u8 (v k a b n : Int) (s t : List UInt8) : ∀ (i : Nat) (x : UInt8), (OC v k a b n s t)[i]? ≠ some (Value.int .u8 (x.toNat : Int)) := by
  intro i x h
  by_cases hi : i < 7
  · rcases (by omega : i = 0 ∨ i = 1 ∨ i = 2 ∨ i = 3 ∨ i = 4 ∨ i = 5 ∨ i = 6) with rfl | rfl | rfl | rfl | rfl | rfl | rfl <;> simp [OC] at h
  · rw [Array.getElem?_eq_none (by simp [OC]; omega)] at h; cases h
def shC (m q : Nat) (i : Bool) : Array Value := #[.int .i64 (m : Int), .int .i64 (q : Int), .bool i]
def txC (go : Nat) : Array Value := #[.pointer (some ⟨go, 5, none⟩), .pointer (some ⟨go, 6, none⟩)]
structure OG (w wr : World) (g go gs gt : Nat) (r : RS) (m q : Nat) (i : Bool) (v k a b n : Int) (s t : List UInt8) : Prop where
  rd : Rd wr g r
  ob : Blk wr go 90 (OC v k a b n s t)
  res : Blk wr w.heap.size 90 (OC 0 0 0 0 0 [] [])
  sh : Blk wr gs 117 (shC m q i)
  tx : Blk wr gt 119 (txC go)
  bel : Below w.heap.size w wr
  g0 : w.heap.size < g
  g1 : g < go
  g2 : go < gs
  g3 : gs < gt
section
variable {w wr w3 : World} {g go gs gt : Nat} {r r' : RS} {m q : Nat} {i : Bool} {v k a b n : Int} {s t : List UInt8}
theorem OG.read (h : OG w wr g go gs gt r m q i v k a b n s t) (hr : Rd w3 g r') (hg : wr.grownBy w3 (some g)) : OG w w3 g go gs gt r' m q i v k a b n s t := by
  have h0 := h.g0
  have h1 := h.g1
  have h2 := h.g2
  have h3 := h.g3
  exact ⟨hr, h.ob.grown hg (by simp; omega), h.res.grown hg (by simp; omega), h.sh.grown hg (by simp; omega), h.tx.grown hg (by simp; omega), below_only h.bel hg (by omega) h.bel.size, h0, h1, h2, h3⟩
theorem OG.store (h : OG w wr g go gs gt r m q i v k a b n s t) (j : Nat) (u : Value) {a2 b2 n2 : Int} {s2 t2 : List UInt8} (hc : (OC v k a b n s t).setIfInBounds j u = OC v k a2 b2 n2 s2 t2) : OG w (wr.setCell ⟨go, j, none⟩ u) g go gs gt r m q i v k a2 b2 n2 s2 t2 := by
  have h0 := h.g0
  have h1 := h.g1
  have h2 := h.g2
  have h3 := h.g3
  exact ⟨RdT.store h.rd h.ob (by omega) (oc_u8 _ _ _ _ _ _ _) j u, by rw [← hc]; exact h.ob.set_ j u, h.res.far (by simp; omega) u, h.sh.far (by simp; omega) u, h.tx.far (by simp; omega) u, h.bel.setCell (p := ⟨go, j, none⟩) (by simp; omega) u, h0, h1, h2, h3⟩
theorem OG.below (h : OG w wr g go gs gt r m q i v k a b n s t) (hb : Below wr.heap.size wr w3) : OG w w3 g go gs gt r m q i v k a b n s t :=
  ⟨h.rd.below hb, h.ob.below hb h.ob.lt, h.res.below hb h.res.lt, h.sh.below hb h.sh.lt, h.tx.below hb h.tx.lt, bel_step h.bel hb, h.g0, h.g1, h.g2, h.g3⟩
end
def oN (m : Nat) (s : RS) (z i : Nat) : Int := if i < z then vaN m s i else 0
def oT (q : Nat) (s : RS) (z i : Nat) : List UInt8 := if i < z then vaT q s i else []
def getOV (r : Option Ol) : Value := match r with
  | some o => .tuple #[.agg (OC o.v o.k o.a o.b o.n o.s o.t), .int .i64 0]
  | none => .tuple #[.agg (OC 0 0 0 0 0 [] []), .int .i64 160]
set_option maxHeartbeats 8000000 in
theorem oldGet_any (A : Option Addr) (nn c : Nat) (l : List UInt8) (w : World) (hn : nn ≤ 20000) (hB : Bs w A nn l) (hN : Nms w) : Calls Tryz.prog 71 #[.slice A nn c] w fun e w' => e = .returned (getOV (getO l)) ∧ Below w.heap.size w w' := by
  have HF := Lib.hid (fun W (h : Bs W A nn l) => from_any A nn c l W (by omega) h)
  have hll : l.length ≤ 20000 := by rw [hB.len]; exact hn
  have hbl := byte_len ⟨l, false⟩
  have hbl2 := byte_len (RS.byte ⟨l, false⟩).2
  simp only at hbl
  obtain ⟨r, hr⟩ : ∃ r, getO l = r := ⟨_, rfl⟩
  rw [hr]
  have HY : Hid (r = if (rdOl ⟨l, false⟩).2.bad = false ∧ (rdOl ⟨l, false⟩).2.l = [] ∧ (rdOl ⟨l, false⟩).1.ok = true then some (rdOl ⟨l, false⟩).1 else none) := Lib.hid hr.symm
  clear hr
  unfold rdOl at HY
  obtain ⟨p, hp⟩ : ∃ p, RS.byte ⟨l, false⟩ = p := ⟨_, rfl⟩
  have HP := Lib.hid hp
  rw [hp] at HY hbl hbl2
  clear hp
  obtain ⟨v0, s0⟩ := p
  simp only at HY hbl hbl2
  obtain ⟨p2, hp2⟩ : ∃ p, RS.byte s0 = p := ⟨_, rfl⟩
  have HP2 := Lib.hid hp2
  rw [hp2] at HY hbl2
  clear hp2
  obtain ⟨k0, s1⟩ := p2
  simp only at HY hbl2
  have HSH := Lib.hid (fun W h => shaped_any (v0 : Int) (k0 : Int) 0 0 0 [] [] W h)
  have hm8 := sN_lt (v0 : Int) (k0 : Int)
  have hq8 := sT_lt (v0 : Int) (k0 : Int)
  generalize sN (v0 : Int) (k0 : Int) = m at *
  generalize sT (v0 : Int) (k0 : Int) = q at *
  generalize sI (v0 : Int) (k0 : Int) = i at *
  have hsl := stN_len m s1 3
  have hN0 := hN.below (bel_alloc (Below.refl w.heap.size w) (.cells (OC 0 0 0 0 0 [] []) 90))
  simp only [OC] at HSH hN0
  go_enter Tryz.func71, Tryz.ntmps71
  go_wp2_with fail
  (with_reducible refine (HF.out _ (hB.alloc _)).mono ?_)
  rintro e w1 ⟨g, rfl, hR, hg, hb1⟩
  simp at hg
  have hres1 : Blk w1 w.heap.size 90 (OC 0 0 0 0 0 [] []) := (Blk.new w _ _).below hb1 (by simp)
  have B1 := bel_step (bel_alloc (Below.refl w.heap.size w) _) hb1
  have hN1 := hN0.below hb1
  clear hb1 hN0
  have hg1 := hR.lt
  go_wp2_with fail
  (with_reducible refine (readByte_any g _ w1 hR).mono ?_)
  rw [HP.out]
  rintro e w2 ⟨rfl, hR2, hg2⟩
  have hres2 := hres1.grown hg2 (by simp; omega)
  have B2 := below_only B1 hg2 (by omega) B1.size
  have hz2 : w1.heap.size ≤ w2.heap.size := hg2.size
  clear hg2 hR hres1
  go_wp2_with fail
  (with_reducible refine (readByte_any g _ w2 hR2).mono ?_)
  rw [HP2.out]
  rintro e w3 ⟨rfl, hR3, hg3⟩
  have hres3 := hres2.grown hg3 (by simp; omega)
  have B3 := below_only B2 hg3 (by omega) B2.size
  have hz3 : w2.heap.size ≤ w3.heap.size := hg3.size
  have hN3 : Nms w3 := hN.below B3
  have hN3' := hN3.below (bel_alloc (Below.refl w3.heap.size w3) (.cells (OC (v0 : Int) (k0 : Int) 0 0 0 [] []) 90))
  simp only [OC] at hN3'
  clear hg3 hR2 hres2 hN1 hN3
  go_wp2_with fail
  (with_reducible refine (HSH.out _ hN3').mono ?_)
  rintro e w4 ⟨rfl, hb4⟩
  have hob4 : Blk w4 w3.heap.size 90 (OC (v0 : Int) (k0 : Int) 0 0 0 [] []) := (Blk.new w3 _ _).below hb4 (by simp)
  have hR4 := (hR3.below (bel_alloc (Below.refl w3.heap.size w3) (.cells (OC (v0 : Int) (k0 : Int) 0 0 0 [] []) 90))).below hb4
  have hres4 := (hres3.alloc (.cells (OC (v0 : Int) (k0 : Int) 0 0 0 [] []) 90)).below hb4 (by simp; omega)
  have B4 := bel_step (bel_alloc B3 _) hb4
  have hz4 : w3.heap.size < w4.heap.size := by have := hb4.size; simp at this; omega
  have hrl := hR3.lt
  simp only [shV]
  clear hb4 hR3 hres3 B3 hN3'
  go_wp2_with fail
  (with_reducible refine (oldFields_any _ _).mono ?_)
  rintro e w5 ⟨rfl, hb5⟩
  have hw5 : w4.heap.size < w5.heap.size := by have := hb5.size; simp at this; omega
  have HG : Hid (OG w ((w5.alloc (.cells #[.pointer (some ⟨w3.heap.size, 2, none⟩), .pointer (some ⟨w3.heap.size, 3, none⟩), .pointer (some ⟨w3.heap.size, 4, none⟩)] 109)).alloc (.cells #[.pointer (some ⟨w3.heap.size, 5, none⟩), .pointer (some ⟨w3.heap.size, 6, none⟩)] 119)) g w3.heap.size w4.heap.size (w5.heap.size + 1) (stN m s1 0) m q i (v0 : Int) (k0 : Int) 0 0 0 [] []) := by
    have hbb := bel_step (bel_alloc (Below.refl w4.heap.size w4) (.cells #[.int .i64 (m : Int), .int .i64 (q : Int), .bool i] 117)) (bel_alloc (bel_alloc hb5 (.cells #[.pointer (some ⟨w3.heap.size, 2, none⟩), .pointer (some ⟨w3.heap.size, 3, none⟩), .pointer (some ⟨w3.heap.size, 4, none⟩)] 109)) (.cells #[.pointer (some ⟨w3.heap.size, 5, none⟩), .pointer (some ⟨w3.heap.size, 6, none⟩)] 119))
    refine ⟨hR4.below hbb, hob4.below hbb (by omega), hres4.below hbb (by omega), ?_, ?_, bel_step B4 hbb, by omega, by omega, by omega, by omega⟩
    · exact ((Blk.new w4 _ _).below (bel_alloc (bel_alloc hb5 _) _) (by simp))
    · have := Blk.new (w5.alloc (.cells #[.pointer (some ⟨w3.heap.size, 2, none⟩), .pointer (some ⟨w3.heap.size, 3, none⟩), .pointer (some ⟨w3.heap.size, 4, none⟩)] 109)) 119 #[.pointer (some ⟨w3.heap.size, 5, none⟩), .pointer (some ⟨w3.heap.size, 6, none⟩)]
      simpa [txC] using this
  clear hb5 hob4 hR4 hres4 B4
  go_wp2_with fail
  generalize w3.heap.size = go at *
  generalize w4.heap.size = gs at *
  generalize w5.heap.size + 1 = gt at *
  clear hw5 hz4
  have HSL := Lib.hid hsl
  generalize hvv : (v0 : Int) = v at *
  generalize hkk : (k0 : Int) = k at *
  have HVV := Lib.hid (And.intro hvv hkk)
  clear hvv hkk
  go_loopw [27] (fun x wr => ∃ (z : Int), 0 ≤ z ∧ z ≤ 3 ∧ x = .int .i64 z ∧ OG w wr g go gs gt (stN m s1 z.toNat) m q i v k (oN m s1 z.toNat 0) (oN m s1 z.toNat 1) (oN m s1 z.toNat 2) [] []) (fun x _ => (3 - intOf x).toNat)
  case atStart => exact ⟨0, by omega, by omega, rfl, HG.out⟩
  case round =>
    clear HG
    obtain ⟨z, hz0, hz3, rfl, hG⟩ := hrel
    rcases (by omega : z = 0 ∨ z = 1 ∨ z = 2 ∨ z = 3) with rfl | rfl | rfl | rfl
    · have i0 := arrI_0
      have hG : OG w wr g go gs gt (stN m s1 0) m q i v k 0 0 0 [] [] := hG
      have sc := hG.sh.cell 0
      simp [shC] at sc
      cases hbt : bitB m 0 with
      | true =>
        have e1 : (bits .and .i64 (m : Int) 1 == 1) = true := (bitT_0 hm8).trans hbt
        have HS : Hid ((stN m s1 0).num = (vaN m s1 0, stN m s1 1)) := Lib.hid (by rw [stN_0]; unfold vaN; rw [rdN_yes hbt])
        have HR := Lib.hid (readNum_any g (stN m s1 0) wr hG.rd)
        rw [HS.out] at HR
        clear hbt HS
        have HGS : Hid (∀ W, Rd W g (stN m s1 1) → wr.grownBy W (some g) → OG w (W.setCell ⟨go, 2, none⟩ (.int .i64 (vaN m s1 0))) g go gs gt (stN m s1 1) m q i v k (vaN m s1 0) 0 0 [] []) := Lib.hid (fun W h1 h2 => OG.store (OG.read (w3 := W) hG h1 h2) 2 _ rfl)
        have HEV := Lib.hid (fun W (h1 : Rd W g (stN m s1 1)) (h2 : wr.grownBy W (some g)) => (OG.read (w3 := W) hG h1 h2).ob)
        clear hG
        go_wp2_with fail
        (with_reducible refine (HR.out).mono ?_)
        rintro e w3 ⟨rfl, hR3, hg3⟩
        have hev := HEV.out w3 hR3 hg3
        have q1 := hev.cell 2
        have q2 := hev.frozen 2
        simp only [OC] at q1
        simp at q1
        go_wp2_with fail
        go_roundw
        case rel => exact ⟨1, by omega, by omega, rfl, HGS.out w3 hR3 hg3⟩
        case measure => simp [intOf]
      | false =>
        have e1 : (bits .and .i64 (m : Int) 1 == 1) = false := (bitT_0 hm8).trans hbt
        have h1 : stN m s1 1 = (stN m s1 0) := by rw [stN_0, rdN_no hbt]
        have h2 : vaN m s1 0 = 0 := by unfold vaN; rw [rdN_no hbt]
        have hG2 : OG w wr g go gs gt (stN m s1 1) m q i v k (vaN m s1 0) 0 0 [] [] := by rw [h1, h2]; exact hG
        have HG := Lib.hid hG2
        clear hbt h1 h2 hG hG2
        go_wp2_with fail
        go_roundw
        case rel => exact ⟨1, by omega, by omega, rfl, HG.out⟩
        case measure => simp [intOf]
    · have i0 := arrI_1
      have hG : OG w wr g go gs gt (stN m s1 1) m q i v k (vaN m s1 0) 0 0 [] [] := hG
      have sc := hG.sh.cell 0
      simp [shC] at sc
      cases hbt : bitB m 1 with
      | true =>
        have e1 : (bits .and .i64 ((m : Int) / 2) 1 == 1) = true := (bitT_1 hm8).trans hbt
        have HS : Hid ((stN m s1 1).num = (vaN m s1 1, stN m s1 2)) := Lib.hid (by rw [stN_1]; unfold vaN; rw [rdN_yes hbt])
        have HR := Lib.hid (readNum_any g (stN m s1 1) wr hG.rd)
        rw [HS.out] at HR
        clear hbt HS
        have HGS : Hid (∀ W, Rd W g (stN m s1 2) → wr.grownBy W (some g) → OG w (W.setCell ⟨go, 3, none⟩ (.int .i64 (vaN m s1 1))) g go gs gt (stN m s1 2) m q i v k (vaN m s1 0) (vaN m s1 1) 0 [] []) := Lib.hid (fun W h1 h2 => OG.store (OG.read (w3 := W) hG h1 h2) 3 _ rfl)
        have HEV := Lib.hid (fun W (h1 : Rd W g (stN m s1 2)) (h2 : wr.grownBy W (some g)) => (OG.read (w3 := W) hG h1 h2).ob)
        clear hG
        go_wp2_with fail
        (with_reducible refine (HR.out).mono ?_)
        rintro e w3 ⟨rfl, hR3, hg3⟩
        have hev := HEV.out w3 hR3 hg3
        have q1 := hev.cell 3
        have q2 := hev.frozen 3
        simp only [OC] at q1
        simp at q1
        go_wp2_with fail
        go_roundw
        case rel => exact ⟨2, by omega, by omega, rfl, HGS.out w3 hR3 hg3⟩
        case measure => simp [intOf]
      | false =>
        have e1 : (bits .and .i64 ((m : Int) / 2) 1 == 1) = false := (bitT_1 hm8).trans hbt
        have h1 : stN m s1 2 = (stN m s1 1) := by rw [stN_1, rdN_no hbt]
        have h2 : vaN m s1 1 = 0 := by unfold vaN; rw [rdN_no hbt]
        have hG2 : OG w wr g go gs gt (stN m s1 2) m q i v k (vaN m s1 0) (vaN m s1 1) 0 [] [] := by rw [h1, h2]; exact hG
        have HG := Lib.hid hG2
        clear hbt h1 h2 hG hG2
        go_wp2_with fail
        go_roundw
        case rel => exact ⟨2, by omega, by omega, rfl, HG.out⟩
        case measure => simp [intOf]
    · have i0 := arrI_2
      have hG : OG w wr g go gs gt (stN m s1 2) m q i v k (vaN m s1 0) (vaN m s1 1) 0 [] [] := hG
      have sc := hG.sh.cell 0
      simp [shC] at sc
      cases hbt : bitB m 2 with
      | true =>
        have e1 : (bits .and .i64 ((m : Int) / 4) 1 == 1) = true := (bitT_2 hm8).trans hbt
        have HS : Hid ((stN m s1 2).num = (vaN m s1 2, stN m s1 3)) := Lib.hid (by rw [stN_2]; unfold vaN; rw [rdN_yes hbt])
        have HR := Lib.hid (readNum_any g (stN m s1 2) wr hG.rd)
        rw [HS.out] at HR
        clear hbt HS
        have HGS : Hid (∀ W, Rd W g (stN m s1 3) → wr.grownBy W (some g) → OG w (W.setCell ⟨go, 4, none⟩ (.int .i64 (vaN m s1 2))) g go gs gt (stN m s1 3) m q i v k (vaN m s1 0) (vaN m s1 1) (vaN m s1 2) [] []) := Lib.hid (fun W h1 h2 => OG.store (OG.read (w3 := W) hG h1 h2) 4 _ rfl)
        have HEV := Lib.hid (fun W (h1 : Rd W g (stN m s1 3)) (h2 : wr.grownBy W (some g)) => (OG.read (w3 := W) hG h1 h2).ob)
        clear hG
        go_wp2_with fail
        (with_reducible refine (HR.out).mono ?_)
        rintro e w3 ⟨rfl, hR3, hg3⟩
        have hev := HEV.out w3 hR3 hg3
        have q1 := hev.cell 4
        have q2 := hev.frozen 4
        simp only [OC] at q1
        simp at q1
        go_wp2_with fail
        go_roundw
        case rel => exact ⟨3, by omega, by omega, rfl, HGS.out w3 hR3 hg3⟩
        case measure => simp [intOf]
      | false =>
        have e1 : (bits .and .i64 ((m : Int) / 4) 1 == 1) = false := (bitT_2 hm8).trans hbt
        have h1 : stN m s1 3 = (stN m s1 2) := by rw [stN_2, rdN_no hbt]
        have h2 : vaN m s1 2 = 0 := by unfold vaN; rw [rdN_no hbt]
        have hG2 : OG w wr g go gs gt (stN m s1 3) m q i v k (vaN m s1 0) (vaN m s1 1) (vaN m s1 2) [] [] := by rw [h1, h2]; exact hG
        have HG := Lib.hid hG2
        clear hbt h1 h2 hG hG2
        go_wp2_with fail
        go_roundw
        case rel => exact ⟨3, by omega, by omega, rfl, HG.out⟩
        case measure => simp [intOf]
    · have hG : OG w wr g go gs gt (stN m s1 3) m q i v k (vaN m s1 0) (vaN m s1 1) (vaN m s1 2) [] [] := hG
      generalize vaN m s1 0 = a at *
      generalize vaN m s1 1 = b at *
      generalize vaN m s1 2 = n at *
      generalize stN m s1 3 = s2 at *
      have e0 := hG.tx.cell 0
      have e1 := hG.tx.cell 1
      simp [txC] at e0 e1
      have HG := Lib.hid hG
      obtain ⟨wo, rfl⟩ : ∃ wo : World, wo = wr := ⟨_, rfl⟩
      clear hG
      go_wp2_with fail
      clear e0 e1
      go_loopw [43] (fun x wr => ∃ (z : Int), 0 ≤ z ∧ z ≤ 2 ∧ x = .int .i64 z ∧ OG w wr g go gs gt (stT q s2 z.toNat) m q i v k a b n (oT q s2 z.toNat 0) (oT q s2 z.toNat 1)) (fun x _ => (2 - intOf x).toNat)
      case atStart => exact ⟨0, by omega, by omega, rfl, HG.out⟩
      case round =>
        clear HG
        obtain ⟨z, hz0, hz3, rfl, hG⟩ := hrel
        rcases (by omega : z = 0 ∨ z = 1 ∨ z = 2) with rfl | rfl | rfl
        · have i0 := arrO_0
          have hG : OG w wr g go gs gt (stT q s2 0) m q i v k a b n [] [] := hG
          have sc := hG.sh.cell 1
          simp [shC] at sc
          cases hbt : bitB q 0 with
          | true =>
            have e1 : (bits .and .i64 (q : Int) 1 == 1) = true := (bitT_0 hq8).trans hbt
            have HS : Hid ((stT q s2 0).text = (vaT q s2 0, stT q s2 1)) := Lib.hid (by rw [stT_0]; unfold vaT; rw [rdT_yes hbt])
            have HR := Lib.hid (readText_any g (stT q s2 0) wr hG.rd)
            rw [HS.out] at HR
            clear hbt HS
            have HGS : Hid (∀ W, Rd W g (stT q s2 1) → wr.grownBy W (some g) → OG w (W.setCell ⟨go, 5, none⟩ (.string ⟨(vaT q s2 0).toArray⟩)) g go gs gt (stT q s2 1) m q i v k a b n (vaT q s2 0) []) := Lib.hid (fun W h1 h2 => OG.store (OG.read (w3 := W) hG h1 h2) 5 _ rfl)
            have HEV := Lib.hid (fun W (h1 : Rd W g (stT q s2 1)) (h2 : wr.grownBy W (some g)) => (OG.read (w3 := W) hG h1 h2).ob)
            clear hG
            go_wp2_with fail
            (with_reducible refine (HR.out).mono ?_)
            rintro e w3 ⟨rfl, hR3, hg3⟩
            have hev := HEV.out w3 hR3 hg3
            have q1 := hev.cell 5
            have q2 := hev.frozen 5
            simp only [OC] at q1
            simp at q1
            go_wp2_with fail
            go_roundw
            case rel => exact ⟨1, by omega, by omega, rfl, HGS.out w3 hR3 hg3⟩
            case measure => simp [intOf]
          | false =>
            have e1 : (bits .and .i64 (q : Int) 1 == 1) = false := (bitT_0 hq8).trans hbt
            have h1 : stT q s2 1 = (stT q s2 0) := by rw [stT_0, rdT_no hbt]
            have h2 : vaT q s2 0 = [] := by unfold vaT; rw [rdT_no hbt]
            have hG2 : OG w wr g go gs gt (stT q s2 1) m q i v k a b n (vaT q s2 0) [] := by rw [h1, h2]; exact hG
            have HG := Lib.hid hG2
            clear hbt h1 h2 hG hG2
            go_wp2_with fail
            go_roundw
            case rel => exact ⟨1, by omega, by omega, rfl, HG.out⟩
            case measure => simp [intOf]
        · have i0 := arrO_1
          have hG : OG w wr g go gs gt (stT q s2 1) m q i v k a b n (vaT q s2 0) [] := hG
          have sc := hG.sh.cell 1
          simp [shC] at sc
          cases hbt : bitB q 1 with
          | true =>
            have e1 : (bits .and .i64 ((q : Int) / 2) 1 == 1) = true := (bitT_1 hq8).trans hbt
            have HS : Hid ((stT q s2 1).text = (vaT q s2 1, stT q s2 2)) := Lib.hid (by rw [stT_1]; unfold vaT; rw [rdT_yes hbt])
            have HR := Lib.hid (readText_any g (stT q s2 1) wr hG.rd)
            rw [HS.out] at HR
            clear hbt HS
            have HGS : Hid (∀ W, Rd W g (stT q s2 2) → wr.grownBy W (some g) → OG w (W.setCell ⟨go, 6, none⟩ (.string ⟨(vaT q s2 1).toArray⟩)) g go gs gt (stT q s2 2) m q i v k a b n (vaT q s2 0) (vaT q s2 1)) := Lib.hid (fun W h1 h2 => OG.store (OG.read (w3 := W) hG h1 h2) 6 _ rfl)
            have HEV := Lib.hid (fun W (h1 : Rd W g (stT q s2 2)) (h2 : wr.grownBy W (some g)) => (OG.read (w3 := W) hG h1 h2).ob)
            clear hG
            go_wp2_with fail
            (with_reducible refine (HR.out).mono ?_)
            rintro e w3 ⟨rfl, hR3, hg3⟩
            have hev := HEV.out w3 hR3 hg3
            have q1 := hev.cell 6
            have q2 := hev.frozen 6
            simp only [OC] at q1
            simp at q1
            go_wp2_with fail
            go_roundw
            case rel => exact ⟨2, by omega, by omega, rfl, HGS.out w3 hR3 hg3⟩
            case measure => simp [intOf]
          | false =>
            have e1 : (bits .and .i64 ((q : Int) / 2) 1 == 1) = false := (bitT_1 hq8).trans hbt
            have h1 : stT q s2 2 = (stT q s2 1) := by rw [stT_1, rdT_no hbt]
            have h2 : vaT q s2 1 = [] := by unfold vaT; rw [rdT_no hbt]
            have hG2 : OG w wr g go gs gt (stT q s2 2) m q i v k a b n (vaT q s2 0) (vaT q s2 1) := by rw [h1, h2]; exact hG
            have HG := Lib.hid hG2
            clear hbt h1 h2 hG hG2
            go_wp2_with fail
            go_roundw
            case rel => exact ⟨2, by omega, by omega, rfl, HG.out⟩
            case measure => simp [intOf]
        · have hG : OG w wr g go gs gt (stT q s2 2) m q i v k a b n (vaT q s2 0) (vaT q s2 1) := hG
          have hs := vaT_len q s2 0
          have ht := vaT_len q s2 1
          generalize vaT q s2 0 = s at *
          generalize vaT q s2 1 = t at *
          generalize stT q s2 2 = sf at *
          have HBAD := Lib.hid (bad_any g sf wr hG.rd)
          have HLEFT := Lib.hid (left_any g sf wr hG.rd)
          have HNW := Lib.hid (hN.below hG.bel)
          have HCK := Lib.hid (fun W h => oldCheck_any v k a b n s t W (by omega) (by omega) h)
          have hsz := hG.bel.size
          have hfz := hG.res.frozen
          have ec0 := hG.ob.cell 0
          have ec1 := hG.ob.cell 1
          have ec2 := hG.ob.cell 2
          have ec3 := hG.ob.cell 3
          have ec4 := hG.ob.cell 4
          have ec5 := hG.ob.cell 5
          have ec6 := hG.ob.cell 6
          simp only [OC] at ec0 ec1 ec2 ec3 ec4 ec5 ec6
          simp at ec0 ec1 ec2 ec3 ec4 ec5 ec6
          have qc0 := hG.res.cell 0
          have qc1 := hG.res.cell 1
          have qc2 := hG.res.cell 2
          have qc3 := hG.res.cell 3
          have qc4 := hG.res.cell 4
          have qc5 := hG.res.cell 5
          have qc6 := hG.res.cell 6
          simp only [OC] at qc0 qc1 qc2 qc3 qc4 qc5 qc6
          simp at qc0 qc1 qc2 qc3 qc4 qc5 qc6
          have HG := Lib.hid hG
          clear hG
          obtain ⟨fl, fb⟩ := sf
          simp only at HY HBAD HLEFT
          cases fb with
          | true =>
            have HR := Lib.hid (HY.out.trans (if_neg (fun h => by cases h.1)))
            clear HY HLEFT HCK
            go_wp2_with fail
            (with_reducible refine (HBAD.out).mono ?_)
            rintro e w7 ⟨rfl, rfl⟩
            go_wp2_with fail
            have HZ := set7 HG.out.res rfl (.int .i64 0) (.int .i64 0) (.int .i64 0) (.int .i64 0) (.int .i64 0) (.string ⟨#[]⟩) (.string ⟨#[]⟩)
            have z0 := HZ.cell 0
            have z1 := HZ.cell 1
            have z2 := HZ.cell 2
            have z3 := HZ.cell 3
            have z4 := HZ.cell 4
            have z5 := HZ.cell 5
            have z6 := HZ.cell 6
            simp at z0 z1 z2 z3 z4 z5 z6
            exact bodyPost_ret (v := getOV none) (by simp [results, Tryz.results71, go_sem, getOV, OC, z0, z1, z2, z3, z4, z5, z6]) rfl ⟨by rw [HR.out], bel7 HG.out.bel (Nat.le_refl _) _ _ _ _ _ _ _⟩
          | false =>
            have HLEFT := Lib.hid (show Calls Tryz.prog 47 #[.pointer (some ⟨g, 0, none⟩)] wr fun e w' => e = .returned (.int .i64 (fl.length : Int)) ∧ wr = w' from HLEFT.out)
            by_cases hfl : 0 < fl.length
            · have HR := Lib.hid (HY.out.trans (if_neg (fun h => by rw [h.2.1] at hfl; simp at hfl)))
              clear HY HCK
              go_wp2_with fail
              (with_reducible refine (HBAD.out).mono ?_)
              rintro e w7 ⟨rfl, rfl⟩
              go_wp2_with fail
              (with_reducible refine (HLEFT.out).mono ?_)
              rintro e w7 ⟨rfl, rfl⟩
              go_wp2_with fail
              have HZ := set7 HG.out.res rfl (.int .i64 0) (.int .i64 0) (.int .i64 0) (.int .i64 0) (.int .i64 0) (.string ⟨#[]⟩) (.string ⟨#[]⟩)
              have z0 := HZ.cell 0
              have z1 := HZ.cell 1
              have z2 := HZ.cell 2
              have z3 := HZ.cell 3
              have z4 := HZ.cell 4
              have z5 := HZ.cell 5
              have z6 := HZ.cell 6
              simp at z0 z1 z2 z3 z4 z5 z6
              exact bodyPost_ret (v := getOV none) (by simp [results, Tryz.results71, go_sem, getOV, OC, z0, z1, z2, z3, z4, z5, z6]) rfl ⟨by rw [HR.out], bel7 HG.out.bel (Nat.le_refl _) _ _ _ _ _ _ _⟩
            · have hfn : fl = [] := List.eq_nil_of_length_eq_zero (by omega)
              subst hfn
              clear hfl
              simp only [List.length_nil] at HLEFT
              cases hok : Ol.ok ⟨v, k, a, b, n, s, t⟩ with
              | false =>
                have HR := Lib.hid (HY.out.trans (if_neg (fun h => by have h3 := h.2.2; rw [hok] at h3; cases h3)))
                rw [hok] at HCK
                simp only [OC] at HCK
                clear HY hok
                go_wp2_with fail
                (with_reducible refine (HBAD.out).mono ?_)
                rintro e w7 ⟨rfl, rfl⟩
                go_wp2_with fail
                (with_reducible refine (HLEFT.out).mono ?_)
                rintro e w7 ⟨rfl, rfl⟩
                go_wp2_with fail
                (with_reducible refine (HCK.out _ HNW.out).mono ?_)
                rintro e wA ⟨rfl, hbA⟩
                have hresA := HG.out.res.below hbA HG.out.res.lt
                have BA := bel_step HG.out.bel hbA
                have hfzA := hresA.frozen
                have qa0 := hresA.cell 0
                have qa1 := hresA.cell 1
                have qa2 := hresA.cell 2
                have qa3 := hresA.cell 3
                have qa4 := hresA.cell 4
                have qa5 := hresA.cell 5
                have qa6 := hresA.cell 6
                simp only [OC] at qa0 qa1 qa2 qa3 qa4 qa5 qa6
                simp at qa0 qa1 qa2 qa3 qa4 qa5 qa6
                have HRES := Lib.hid hresA
                clear hresA hbA
                go_wp2_with fail
                have HZ := set7 HRES.out rfl (.int .i64 0) (.int .i64 0) (.int .i64 0) (.int .i64 0) (.int .i64 0) (.string ⟨#[]⟩) (.string ⟨#[]⟩)
                have z0 := HZ.cell 0
                have z1 := HZ.cell 1
                have z2 := HZ.cell 2
                have z3 := HZ.cell 3
                have z4 := HZ.cell 4
                have z5 := HZ.cell 5
                have z6 := HZ.cell 6
                simp at z0 z1 z2 z3 z4 z5 z6
                exact bodyPost_ret (v := getOV none) (by simp [results, Tryz.results71, go_sem, getOV, OC, z0, z1, z2, z3, z4, z5, z6]) rfl ⟨by rw [HR.out], bel7 BA (Nat.le_refl _) _ _ _ _ _ _ _⟩
              | true =>
                have HR := Lib.hid (HY.out.trans (if_pos ⟨rfl, rfl, hok⟩))
                rw [hok] at HCK
                simp only [OC] at HCK
                clear HY hok
                go_wp2_with fail
                (with_reducible refine (HBAD.out).mono ?_)
                rintro e w7 ⟨rfl, rfl⟩
                go_wp2_with fail
                (with_reducible refine (HLEFT.out).mono ?_)
                rintro e w7 ⟨rfl, rfl⟩
                go_wp2_with fail
                (with_reducible refine (HCK.out _ HNW.out).mono ?_)
                rintro e wA ⟨rfl, hbA⟩
                have hevA := HG.out.ob.below hbA HG.out.ob.lt
                have hresA := HG.out.res.below hbA HG.out.res.lt
                have BA := bel_step HG.out.bel hbA
                have hfzA := hresA.frozen
                have qa0 := hresA.cell 0
                have qa1 := hresA.cell 1
                have qa2 := hresA.cell 2
                have qa3 := hresA.cell 3
                have qa4 := hresA.cell 4
                have qa5 := hresA.cell 5
                have qa6 := hresA.cell 6
                simp only [OC] at qa0 qa1 qa2 qa3 qa4 qa5 qa6
                simp at qa0 qa1 qa2 qa3 qa4 qa5 qa6
                have ea0 := hevA.cell 0
                have ea1 := hevA.cell 1
                have ea2 := hevA.cell 2
                have ea3 := hevA.cell 3
                have ea4 := hevA.cell 4
                have ea5 := hevA.cell 5
                have ea6 := hevA.cell 6
                simp only [OC] at ea0 ea1 ea2 ea3 ea4 ea5 ea6
                simp at ea0 ea1 ea2 ea3 ea4 ea5 ea6
                have HRES := Lib.hid hresA
                clear hresA hbA hevA
                go_wp2_with fail
                have HZ := set7 HRES.out rfl (.int .i64 v) (.int .i64 k) (.int .i64 a) (.int .i64 b) (.int .i64 n) (.string ⟨s.toArray⟩) (.string ⟨t.toArray⟩)
                have z0 := HZ.cell 0
                have z1 := HZ.cell 1
                have z2 := HZ.cell 2
                have z3 := HZ.cell 3
                have z4 := HZ.cell 4
                have z5 := HZ.cell 5
                have z6 := HZ.cell 6
                simp at z0 z1 z2 z3 z4 z5 z6
                exact bodyPost_ret (v := getOV (some ⟨v, k, a, b, n, s, t⟩)) (by simp [results, Tryz.results71, go_sem, getOV, OC, z0, z1, z2, z3, z4, z5, z6]) rfl ⟨by rw [HR.out], bel7 BA (Nat.le_refl _) _ _ _ _ _ _ _⟩
end Go.Proofs.YtfepinnfhcjopaaGreatDoor
