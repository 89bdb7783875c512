/-
  The reference's Get of what older formats tell.
-/
import Derived.Test.YtfepinnfhcjopaaGreatDoorOlG
import Derived.Test.YtfepinnfhcjopaaGreatDoorOlB3
import Derived.Test.YtfepinnfhcjopaaGreatDoorCdZ
namespace Go.Proofs.YtfepinnfhcjopaaGreatDoor
open Go.RowKit Go.Nst
set_option maxRecDepth 100000
set_option linter.unusedVariables false
set_option linter.unusedSimpArgs false

theorem s2_u8 (s t : ByteArray) : ∀ (i : Nat) (x : UInt8), (#[Value.string s, .string t] : Array Value)[i]? ≠ some (Value.int .u8 (x.toNat : Int)) := by
  intro i x h
  by_cases hi : i < 2
  · rcases (by omega : i = 0 ∨ i = 1) with rfl | rfl <;> simp at h
  · rw [Array.getElem?_eq_none (by simp; omega)] at h; cases h
def s2 (s t : List UInt8) : Array Value := #[.string ⟨s.toArray⟩, .string ⟨t.toArray⟩]
structure OG2 (w wr : World) (g go gi gt : Nat) (r : RS) (v k a b n : Int) (s t : List UInt8) (a1 b1 n1 : Int) (x1 y1 : List UInt8) : Prop where
  rd : RdT 57 wr g r
  ob : Blk wr go 90 (OC v k a b n s t)
  res : Blk wr w.heap.size 90 (OC 0 0 0 0 0 [] [])
  ns : Blk wr gi 3 (i3 a1 b1 n1)
  ts : Blk wr gt 9 (s2 x1 y1)
  bel : Below w.heap.size w wr
  g0 : w.heap.size < g
  g1 : g < go
  g2 : go < gi
  g3 : gi < gt
section
variable {w wr w3 : World} {g go gi gt : Nat} {r r' : RS} {v k a b n : Int} {s t : List UInt8} {a1 b1 n1 : Int} {x1 y1 : List UInt8}
theorem OG2.drew (h : OG2 w wr g go gi gt r v k a b n s t a1 b1 n1 x1 y1) : OG2 w wr.drew g go gi gt r v k a b n s t a1 b1 n1 x1 y1 := ⟨h.rd, h.ob, h.res, h.ns, h.ts, h.bel.drew, h.g0, h.g1, h.g2, h.g3⟩
theorem OG2.read (h : OG2 w wr g go gi gt r v k a b n s t a1 b1 n1 x1 y1) (hr : RdT 57 w3 g r') (hg : wr.grownBy w3 (some g)) : OG2 w w3 g go gi gt r' v k a b n s t a1 b1 n1 x1 y1 := by
  have h0 := h.g0
  have h1 := h.g1
  have h2 := h.g2
  have h3 := h.g3
  exact ⟨hr, h.ob.grown hg (by simp; omega), h.res.grown hg (by simp; omega), h.ns.grown hg (by simp; omega), h.ts.grown hg (by simp; omega), below_only h.bel hg (by omega) h.bel.size, h0, h1, h2, h3⟩
theorem OG2.storeN (h : OG2 w wr g go gi gt r v k a b n s t a1 b1 n1 x1 y1) (i : Nat) (u : Value) {a2 b2 n2 : Int} (hc : (i3 a1 b1 n1).setIfInBounds i u = i3 a2 b2 n2) : OG2 w (wr.setCell ⟨gi, i, none⟩ u) g go gi gt r v k a b n s t a2 b2 n2 x1 y1 := by
  have h0 := h.g0
  have h1 := h.g1
  have h2 := h.g2
  have h3 := h.g3
  exact ⟨RdT.store h.rd h.ns (by omega) (i3_u8 _ _ _) i u, h.ob.far (by simp; omega) u, h.res.far (by simp; omega) u, by rw [← hc]; exact h.ns.set_ i u, h.ts.far (by simp; omega) u, h.bel.setCell (p := ⟨gi, i, none⟩) (by simp; omega) u, h0, h1, h2, h3⟩
theorem OG2.storeT (h : OG2 w wr g go gi gt r v k a b n s t a1 b1 n1 x1 y1) (i : Nat) (u : Value) {x2 y2 : List UInt8} (hc : (s2 x1 y1).setIfInBounds i u = s2 x2 y2) : OG2 w (wr.setCell ⟨gt, i, none⟩ u) g go gi gt r v k a b n s t a1 b1 n1 x2 y2 := by
  have h0 := h.g0
  have h1 := h.g1
  have h2 := h.g2
  have h3 := h.g3
  exact ⟨RdT.store h.rd h.ts (by omega) (s2_u8 _ _) i u, h.ob.far (by simp; omega) u, h.res.far (by simp; omega) u, h.ns.far (by simp; omega) u, by rw [← hc]; exact h.ts.set_ i u, h.bel.setCell (p := ⟨gt, i, none⟩) (by simp; omega) u, h0, h1, h2, h3⟩
theorem OG2.storeE (h : OG2 w wr g go gi gt r v k a b n s t a1 b1 n1 x1 y1) (i : Nat) (u : Value) {a2 b2 n2 : Int} {s2' t2 : List UInt8} (hc : (OC v k a b n s t).setIfInBounds i u = OC v k a2 b2 n2 s2' t2) : OG2 w (wr.setCell ⟨go, i, none⟩ u) g go gi gt r v k a2 b2 n2 s2' t2 a1 b1 n1 x1 y1 := by
  have h0 := h.g0
  have h1 := h.g1
  have h2 := h.g2
  have h3 := h.g3
  exact ⟨RdT.store h.rd h.ob (by omega) (oc_u8 _ _ _ _ _ _ _) i u, by rw [← hc]; exact h.ob.set_ i u, h.res.far (by simp; omega) u, h.ns.far (by simp; omega) u, h.ts.far (by simp; omega) u, h.bel.setCell (p := ⟨go, i, none⟩) (by simp; omega) u, h0, h1, h2, h3⟩
end
theorem mk2s (w : World) : (Instr.makeSlice 71 (.int .i64 2) (.int .i64 2)).run Tryz.prog w = .ok (.slice (some ⟨w.heap.size, 0, none⟩) 2 2) (w.alloc (.cells #[.string ⟨#[]⟩, .string ⟨#[]⟩] 9)) := by kernel_rfl
def getORV (r : Option Ol) : Value := match r with
  | some o => .tuple #[.agg (OC o.v o.k o.a o.b o.n o.s o.t), .bool true]
  | none => .tuple #[.agg (OC 0 0 0 0 0 [] []), .bool false]
set_option maxHeartbeats 8000000 in
theorem refGet16_any (A : Option Addr) (nn c : Nat) (l : List UInt8) (w : World) (hn : nn ≤ 20000) (hB : Bs w A nn l) : Calls Tryz.prog 64 #[.slice A nn c] w fun e w' => e = .returned (getORV (getO l)) ∧ Below w.heap.size w w' := by
  have hll : l.length ≤ 20000 := by rw [hB.len]; exact hn
  have hbl := byte_len ⟨l, false⟩
  have hbl2 := byte_len (RS.byte ⟨l, false⟩).2
  simp only at hbl
  obtain ⟨r, hr⟩ : ∃ r, getO l = r := ⟨_, rfl⟩
  rw [hr]
  have HY : Hid (r = if (rdOl ⟨l, false⟩).2.bad = false ∧ (rdOl ⟨l, false⟩).2.l = [] ∧ (rdOl ⟨l, false⟩).1.ok = true then some (rdOl ⟨l, false⟩).1 else none) := Lib.hid hr.symm
  clear hr
  unfold rdOl at HY
  obtain ⟨p, hp⟩ : ∃ p, RS.byte ⟨l, false⟩ = p := ⟨_, rfl⟩
  have HP := Lib.hid hp
  rw [hp] at HY hbl hbl2
  clear hp
  obtain ⟨v0, s0⟩ := p
  simp only at HY hbl hbl2
  obtain ⟨p2, hp2⟩ : ∃ p, RS.byte s0 = p := ⟨_, rfl⟩
  have HP2 := Lib.hid hp2
  rw [hp2] at HY hbl2
  clear hp2
  obtain ⟨k0, s1⟩ := p2
  simp only at HY hbl2
  have HU := Lib.hid (fun W => refUses16_any (v0 : Int) (k0 : Int) W)
  have hm8 := sN_lt (v0 : Int) (k0 : Int)
  have hq8 := sT_lt (v0 : Int) (k0 : Int)
  generalize sN (v0 : Int) (k0 : Int) = m at *
  generalize sT (v0 : Int) (k0 : Int) = q at *
  generalize sI (v0 : Int) (k0 : Int) = i at *
  have hsl := stN_len m s1 3
  have hBa := (hB.alloc (.cells (OC 0 0 0 0 0 [] []) 90)).alloc (.cells #[] 5)
  have hOa := Ow.made (base := w.heap.size + 1) (w.alloc (.cells (OC 0 0 0 0 0 [] []) 90)) [] #[] rfl (by unfold maxLen; simp) (by simp)
  simp only [OC, List.length_nil] at hBa hOa
  simp at hOa
  go_enter Tryz.func64, Tryz.ntmps64
  go_wp2_with (at_builtin; refine wpList_appBg _ iBytes rfl rfl rfl hOa rfl hBa nn l (by omega) (by simp) (by omega) (by simp) ?_; intro A1 c1 w1 ho1 hb1 _ _)
  have hs1 : w.heap.size + 2 ≤ w1.heap.size := by have := hb1.size; simp at this; omega
  have hres1 : Blk w1 w.heap.size 90 (OC 0 0 0 0 0 [] []) := ((Blk.new w _ _).alloc _).below hb1 (by omega)
  have B1 : Below w.heap.size w w1 := (bel_alloc (bel_alloc (Below.refl w.heap.size w) _) _).trans (hb1.mono (by omega))
  have hR : RdT 57 (w1.alloc (.cells #[.slice A1 nn c1, .bool false] 57)) w1.heap.size ⟨l, false⟩ := ⟨A1, nn, c1, Blk.new _ _ _, ho1.bs.alloc _, ho1.cap, by omega⟩
  have hres1 := hres1.alloc (.cells #[.slice A1 nn c1, .bool false] 57)
  have B1 := bel_alloc B1 (.cells #[.slice A1 nn c1, .bool false] 57)
  clear hb1 ho1 hBa hOa
  have HRB := Lib.hid (refByte_any w1.heap.size _ _ hR)
  rw [HP.out] at HRB
  have hgl := hR.lt
  generalize w1.alloc (.cells #[.slice A1 nn c1, .bool false] 57) = wx at *
  generalize w1.heap.size = g at *
  (with_reducible refine (HRB.out).mono ?_)
  rintro e w2 ⟨rfl, hR2, hg2⟩
  have hres2 := hres1.grown hg2 (by simp; omega)
  have B2 := below_only B1 hg2 (by omega) B1.size
  have hz2 : wx.heap.size ≤ w2.heap.size := hg2.size
  clear hg2 hR hres1 HRB B1
  go_wp2_with fail
  (with_reducible refine (refByte_any g _ w2 hR2).mono ?_)
  rw [HP2.out]
  rintro e w3 ⟨rfl, hR3, hg3⟩
  have hres3 := hres2.grown hg3 (by simp; omega)
  have B3 := below_only B2 hg3 (by omega) B2.size
  have hz3 : w2.heap.size ≤ w3.heap.size := hg3.size
  clear hg3 hR2 hres2
  go_wp2_with fail
  (with_reducible refine (HU.out _).mono ?_)
  rintro e w4 ⟨rfl, rfl⟩
  have HG : Hid (OG2 w (((w3.alloc (.cells #[.int .i64 (v0 : Int), .int .i64 (k0 : Int), .int .i64 0, .int .i64 0, .int .i64 0, .string ⟨#[]⟩, .string ⟨#[]⟩] 90)).alloc (.cells #[.int .i64 0, .int .i64 0, .int .i64 0] 3)).alloc (.cells #[.string ⟨#[]⟩, .string ⟨#[]⟩] 9)) g w3.heap.size (w3.heap.size + 1) (w3.heap.size + 1 + 1) (stN m s1 0) (v0 : Int) (k0 : Int) 0 0 0 [] [] 0 0 0 [] []) := by
    have hbb := bel_alloc (bel_alloc (bel_alloc (Below.refl w3.heap.size w3) (.cells #[.int .i64 (v0 : Int), .int .i64 (k0 : Int), .int .i64 0, .int .i64 0, .int .i64 0, .string ⟨#[]⟩, .string ⟨#[]⟩] 90)) (.cells #[.int .i64 0, .int .i64 0, .int .i64 0] 3)) (.cells #[.string ⟨#[]⟩, .string ⟨#[]⟩] 9)
    refine ⟨hR3.below hbb, ((Blk.new w3 _ _).alloc _).alloc _, hres3.below hbb (by omega), ?_, ?_, bel_step B3 hbb, by omega, by have := hR3.lt; omega, by omega, by omega⟩
    · have := (Blk.new (w3.alloc (.cells #[.int .i64 (v0 : Int), .int .i64 (k0 : Int), .int .i64 0, .int .i64 0, .int .i64 0, .string ⟨#[]⟩, .string ⟨#[]⟩] 90)) 3 (i3 0 0 0)).alloc (.cells #[.string ⟨#[]⟩, .string ⟨#[]⟩] 9)
      simpa [i3] using this
    · have := Blk.new ((w3.alloc (.cells #[.int .i64 (v0 : Int), .int .i64 (k0 : Int), .int .i64 0, .int .i64 0, .int .i64 0, .string ⟨#[]⟩, .string ⟨#[]⟩] 90)).alloc (.cells #[.int .i64 0, .int .i64 0, .int .i64 0] 3)) 9 (s2 [] [])
      simpa [s2] using this
  have hmk1 := mk3i
  have hmk2 := mk2s
  clear hres3 hR3 B3
  go_wp2_with fail
  generalize hgo : w3.heap.size = go at *
  clear hgo hmk1 hmk2
  generalize hgi : go + 1 = gi at *
  generalize hgt : gi + 1 = gt at *
  clear hgi hgt
  have HSL := Lib.hid hsl
  generalize hvv : (v0 : Int) = v at *
  generalize hkk : (k0 : Int) = k at *
  have HVV := Lib.hid (And.intro hvv hkk)
  clear hvv hkk
  go_loopw [11] (fun x wr => ∃ (z : Int), 0 ≤ z ∧ z ≤ 3 ∧ x = .int .i64 z ∧ OG2 w wr g go gi gt (stN m s1 z.toNat) v k 0 0 0 [] [] (oN m s1 z.toNat 0) (oN m s1 z.toNat 1) (oN m s1 z.toNat 2) [] []) (fun x _ => (3 - intOf x).toNat)
  case atStart => exact ⟨0, by omega, by omega, rfl, HG.out⟩
  case round =>
    clear HG
    obtain ⟨z, hz0, hz3, rfl, hG⟩ := hrel
    rcases (by omega : z = 0 ∨ z = 1 ∨ z = 2 ∨ z = 3) with rfl | rfl | rfl | rfl
    · have hG : OG2 w wr g go gi gt (stN m s1 0) v k 0 0 0 [] [] 0 0 0 [] [] := hG
      cases hbt : bitB m 0 with
      | true =>
        have e1 : (bits .and .i64 (m : Int) 1 == 1) = true := (bitT_0 hm8).trans hbt
        have HS : Hid ((stN m s1 0).num = (vaN m s1 0, stN m s1 1)) := Lib.hid (by rw [stN_0]; unfold vaN; rw [rdN_yes hbt])
        have HR := Lib.hid (refNum_any g (stN m s1 0) wr hG.rd)
        rw [HS.out] at HR
        clear hbt HS
        have HGS : Hid (∀ W, RdT 57 W g (stN m s1 1) → wr.grownBy W (some g) → OG2 w (W.setCell ⟨gi, 0, none⟩ (.int .i64 (vaN m s1 0))) g go gi gt (stN m s1 1) v k 0 0 0 [] [] (vaN m s1 0) 0 0 [] []) := Lib.hid (fun W h1 h2 => OG2.storeN (OG2.read (w3 := W) hG h1 h2) 0 _ rfl)
        have HEV := Lib.hid (fun W (h1 : RdT 57 W g (stN m s1 1)) (h2 : wr.grownBy W (some g)) => (OG2.read (w3 := W) hG h1 h2).ns)
        go_wp2_with fail
        (with_reducible refine (HR.out).mono ?_)
        rintro e w3 ⟨rfl, hR3, hg3⟩
        have hev := HEV.out w3 hR3 hg3
        have q1 := hev.cell 0
        have q2 := hev.frozen 0
        simp only [i3, s2] at q1
        simp at q1
        go_wp2_with fail
        go_roundw
        case rel => exact ⟨1, by omega, by omega, rfl, HGS.out w3 hR3 hg3⟩
        case measure => simp [intOf]
      | false =>
        have e1 : (bits .and .i64 (m : Int) 1 == 1) = false := (bitT_0 hm8).trans hbt
        have h1 : stN m s1 1 = (stN m s1 0) := by rw [stN_0, rdN_no hbt]
        have h2 : vaN m s1 0 = 0 := by unfold vaN; rw [rdN_no hbt]
        have hG2 : OG2 w wr g go gi gt (stN m s1 1) v k 0 0 0 [] [] (vaN m s1 0) 0 0 [] [] := by rw [h1, h2]; exact hG
        have HG := Lib.hid hG2
        clear hbt h1 h2 hG hG2
        go_wp2_with fail
        go_roundw
        case rel => exact ⟨1, by omega, by omega, rfl, HG.out⟩
        case measure => simp [intOf]
    · have hG : OG2 w wr g go gi gt (stN m s1 1) v k 0 0 0 [] [] (vaN m s1 0) 0 0 [] [] := hG
      cases hbt : bitB m 1 with
      | true =>
        have e1 : (bits .and .i64 ((m : Int) / 2) 1 == 1) = true := (bitT_1 hm8).trans hbt
        have HS : Hid ((stN m s1 1).num = (vaN m s1 1, stN m s1 2)) := Lib.hid (by rw [stN_1]; unfold vaN; rw [rdN_yes hbt])
        have HR := Lib.hid (refNum_any g (stN m s1 1) wr hG.rd)
        rw [HS.out] at HR
        clear hbt HS
        have HGS : Hid (∀ W, RdT 57 W g (stN m s1 2) → wr.grownBy W (some g) → OG2 w (W.setCell ⟨gi, 1, none⟩ (.int .i64 (vaN m s1 1))) g go gi gt (stN m s1 2) v k 0 0 0 [] [] (vaN m s1 0) (vaN m s1 1) 0 [] []) := Lib.hid (fun W h1 h2 => OG2.storeN (OG2.read (w3 := W) hG h1 h2) 1 _ rfl)
        have HEV := Lib.hid (fun W (h1 : RdT 57 W g (stN m s1 2)) (h2 : wr.grownBy W (some g)) => (OG2.read (w3 := W) hG h1 h2).ns)
        go_wp2_with fail
        (with_reducible refine (HR.out).mono ?_)
        rintro e w3 ⟨rfl, hR3, hg3⟩
        have hev := HEV.out w3 hR3 hg3
        have q1 := hev.cell 1
        have q2 := hev.frozen 1
        simp only [i3, s2] at q1
        simp at q1
        go_wp2_with fail
        go_roundw
        case rel => exact ⟨2, by omega, by omega, rfl, HGS.out w3 hR3 hg3⟩
        case measure => simp [intOf]
      | false =>
        have e1 : (bits .and .i64 ((m : Int) / 2) 1 == 1) = false := (bitT_1 hm8).trans hbt
        have h1 : stN m s1 2 = (stN m s1 1) := by rw [stN_1, rdN_no hbt]
        have h2 : vaN m s1 1 = 0 := by unfold vaN; rw [rdN_no hbt]
        have hG2 : OG2 w wr g go gi gt (stN m s1 2) v k 0 0 0 [] [] (vaN m s1 0) (vaN m s1 1) 0 [] [] := by rw [h1, h2]; exact hG
        have HG := Lib.hid hG2
        clear hbt h1 h2 hG hG2
        go_wp2_with fail
        go_roundw
        case rel => exact ⟨2, by omega, by omega, rfl, HG.out⟩
        case measure => simp [intOf]
    · have hG : OG2 w wr g go gi gt (stN m s1 2) v k 0 0 0 [] [] (vaN m s1 0) (vaN m s1 1) 0 [] [] := hG
      cases hbt : bitB m 2 with
      | true =>
        have e1 : (bits .and .i64 ((m : Int) / 4) 1 == 1) = true := (bitT_2 hm8).trans hbt
        have HS : Hid ((stN m s1 2).num = (vaN m s1 2, stN m s1 3)) := Lib.hid (by rw [stN_2]; unfold vaN; rw [rdN_yes hbt])
        have HR := Lib.hid (refNum_any g (stN m s1 2) wr hG.rd)
        rw [HS.out] at HR
        clear hbt HS
        have HGS : Hid (∀ W, RdT 57 W g (stN m s1 3) → wr.grownBy W (some g) → OG2 w (W.setCell ⟨gi, 2, none⟩ (.int .i64 (vaN m s1 2))) g go gi gt (stN m s1 3) v k 0 0 0 [] [] (vaN m s1 0) (vaN m s1 1) (vaN m s1 2) [] []) := Lib.hid (fun W h1 h2 => OG2.storeN (OG2.read (w3 := W) hG h1 h2) 2 _ rfl)
        have HEV := Lib.hid (fun W (h1 : RdT 57 W g (stN m s1 3)) (h2 : wr.grownBy W (some g)) => (OG2.read (w3 := W) hG h1 h2).ns)
        go_wp2_with fail
        (with_reducible refine (HR.out).mono ?_)
        rintro e w3 ⟨rfl, hR3, hg3⟩
        have hev := HEV.out w3 hR3 hg3
        have q1 := hev.cell 2
        have q2 := hev.frozen 2
        simp only [i3, s2] at q1
        simp at q1
        go_wp2_with fail
        go_roundw
        case rel => exact ⟨3, by omega, by omega, rfl, HGS.out w3 hR3 hg3⟩
        case measure => simp [intOf]
      | false =>
        have e1 : (bits .and .i64 ((m : Int) / 4) 1 == 1) = false := (bitT_2 hm8).trans hbt
        have h1 : stN m s1 3 = (stN m s1 2) := by rw [stN_2, rdN_no hbt]
        have h2 : vaN m s1 2 = 0 := by unfold vaN; rw [rdN_no hbt]
        have hG2 : OG2 w wr g go gi gt (stN m s1 3) v k 0 0 0 [] [] (vaN m s1 0) (vaN m s1 1) (vaN m s1 2) [] [] := by rw [h1, h2]; exact hG
        have HG := Lib.hid hG2
        clear hbt h1 h2 hG hG2
        go_wp2_with fail
        go_roundw
        case rel => exact ⟨3, by omega, by omega, rfl, HG.out⟩
        case measure => simp [intOf]
    · have hG : OG2 w wr g go gi gt (stN m s1 3) v k 0 0 0 [] [] (vaN m s1 0) (vaN m s1 1) (vaN m s1 2) [] [] := hG
      generalize vaN m s1 0 = a at *
      generalize vaN m s1 1 = b at *
      generalize vaN m s1 2 = n at *
      generalize stN m s1 3 = s2_ at *
      have HG := Lib.hid hG
      obtain ⟨wo, rfl⟩ : ∃ wo : World, wo = wr := ⟨_, rfl⟩
      go_wp2_with fail
      clear hG
      go_loopw [12] (fun x wr => ∃ (z : Int), 0 ≤ z ∧ z ≤ 2 ∧ x = .int .i64 z ∧ OG2 w wr g go gi gt (stT q s2_ z.toNat) v k 0 0 0 [] [] a b n (oT q s2_ z.toNat 0) (oT q s2_ z.toNat 1)) (fun x _ => (2 - intOf x).toNat)
      case atStart => exact ⟨0, by omega, by omega, rfl, HG.out⟩
      case round =>
        clear HG
        obtain ⟨z, hz0, hz3, rfl, hG⟩ := hrel
        rcases (by omega : z = 0 ∨ z = 1 ∨ z = 2) with rfl | rfl | rfl
        · have hG : OG2 w wr g go gi gt (stT q s2_ 0) v k 0 0 0 [] [] a b n [] [] := hG
          cases hbt : bitB q 0 with
          | true =>
            have e1 : (bits .and .i64 (q : Int) 1 == 1) = true := (bitT_0 hq8).trans hbt
            have HS : Hid ((stT q s2_ 0).text = (vaT q s2_ 0, stT q s2_ 1)) := Lib.hid (by rw [stT_0]; unfold vaT; rw [rdT_yes hbt])
            have HR := Lib.hid (refText_any g (stT q s2_ 0) wr hG.rd)
            rw [HS.out] at HR
            clear hbt HS
            have HGS : Hid (∀ W, RdT 57 W g (stT q s2_ 1) → wr.grownBy W (some g) → OG2 w (W.setCell ⟨gt, 0, none⟩ (.string ⟨(vaT q s2_ 0).toArray⟩)) g go gi gt (stT q s2_ 1) v k 0 0 0 [] [] a b n (vaT q s2_ 0) []) := Lib.hid (fun W h1 h2 => OG2.storeT (OG2.read (w3 := W) hG h1 h2) 0 _ rfl)
            have HEV := Lib.hid (fun W (h1 : RdT 57 W g (stT q s2_ 1)) (h2 : wr.grownBy W (some g)) => (OG2.read (w3 := W) hG h1 h2).ts)
            go_wp2_with fail
            (with_reducible refine (HR.out).mono ?_)
            rintro e w3 ⟨rfl, hR3, hg3⟩
            have hev := HEV.out w3 hR3 hg3
            have q1 := hev.cell 0
            have q2 := hev.frozen 0
            simp only [i3, s2] at q1
            simp at q1
            go_wp2_with fail
            go_roundw
            case rel => exact ⟨1, by omega, by omega, rfl, HGS.out w3 hR3 hg3⟩
            case measure => simp [intOf]
          | false =>
            have e1 : (bits .and .i64 (q : Int) 1 == 1) = false := (bitT_0 hq8).trans hbt
            have h1 : stT q s2_ 1 = (stT q s2_ 0) := by rw [stT_0, rdT_no hbt]
            have h2 : vaT q s2_ 0 = [] := by unfold vaT; rw [rdT_no hbt]
            have hG2 : OG2 w wr g go gi gt (stT q s2_ 1) v k 0 0 0 [] [] a b n (vaT q s2_ 0) [] := by rw [h1, h2]; exact hG
            have HG := Lib.hid hG2
            clear hbt h1 h2 hG hG2
            go_wp2_with fail
            go_roundw
            case rel => exact ⟨1, by omega, by omega, rfl, HG.out⟩
            case measure => simp [intOf]
        · have hG : OG2 w wr g go gi gt (stT q s2_ 1) v k 0 0 0 [] [] a b n (vaT q s2_ 0) [] := hG
          cases hbt : bitB q 1 with
          | true =>
            have e1 : (bits .and .i64 ((q : Int) / 2) 1 == 1) = true := (bitT_1 hq8).trans hbt
            have HS : Hid ((stT q s2_ 1).text = (vaT q s2_ 1, stT q s2_ 2)) := Lib.hid (by rw [stT_1]; unfold vaT; rw [rdT_yes hbt])
            have HR := Lib.hid (refText_any g (stT q s2_ 1) wr hG.rd)
            rw [HS.out] at HR
            clear hbt HS
            have HGS : Hid (∀ W, RdT 57 W g (stT q s2_ 2) → wr.grownBy W (some g) → OG2 w (W.setCell ⟨gt, 1, none⟩ (.string ⟨(vaT q s2_ 1).toArray⟩)) g go gi gt (stT q s2_ 2) v k 0 0 0 [] [] a b n (vaT q s2_ 0) (vaT q s2_ 1)) := Lib.hid (fun W h1 h2 => OG2.storeT (OG2.read (w3 := W) hG h1 h2) 1 _ rfl)
            have HEV := Lib.hid (fun W (h1 : RdT 57 W g (stT q s2_ 2)) (h2 : wr.grownBy W (some g)) => (OG2.read (w3 := W) hG h1 h2).ts)
            go_wp2_with fail
            (with_reducible refine (HR.out).mono ?_)
            rintro e w3 ⟨rfl, hR3, hg3⟩
            have hev := HEV.out w3 hR3 hg3
            have q1 := hev.cell 1
            have q2 := hev.frozen 1
            simp only [i3, s2] at q1
            simp at q1
            go_wp2_with fail
            go_roundw
            case rel => exact ⟨2, by omega, by omega, rfl, HGS.out w3 hR3 hg3⟩
            case measure => simp [intOf]
          | false =>
            have e1 : (bits .and .i64 ((q : Int) / 2) 1 == 1) = false := (bitT_1 hq8).trans hbt
            have h1 : stT q s2_ 2 = (stT q s2_ 1) := by rw [stT_1, rdT_no hbt]
            have h2 : vaT q s2_ 1 = [] := by unfold vaT; rw [rdT_no hbt]
            have hG2 : OG2 w wr g go gi gt (stT q s2_ 2) v k 0 0 0 [] [] a b n (vaT q s2_ 0) (vaT q s2_ 1) := by rw [h1, h2]; exact hG
            have HG := Lib.hid hG2
            clear hbt h1 h2 hG hG2
            go_wp2_with fail
            go_roundw
            case rel => exact ⟨2, by omega, by omega, rfl, HG.out⟩
            case measure => simp [intOf]
        · have hG : OG2 w wr g go gi gt (stT q s2_ 2) v k 0 0 0 [] [] a b n (vaT q s2_ 0) (vaT q s2_ 1) := hG
          have hs := vaT_len q s2_ 0
          have ht := vaT_len q s2_ 1
          generalize vaT q s2_ 0 = s at *
          generalize vaT q s2_ 1 = t at *
          generalize stT q s2_ 2 = sf at *
          have HCK := Lib.hid (fun W => refCheck16_any v k a b n s t W (by omega) (by omega))
          go_wp2_with fail
          refine wp_region_seqD (Onl go) (Onl.refl go) Onl.trans (by kernel_rfl) [(0, true), (1, true), (2, true), (3, true), (4, true), (5, true), (6, true), (7, true), (8, true), (9, true), (10, false), (11, true), (12, false), (13, true), (14, false)] (by kernel_rfl) rfl (by kernel_rfl) ?_
          have hG7 := hG.drew
          clear hG
          generalize wr.drew = w7 at *
          have hne : some gi ≠ some go := by have := hG7.g2; have := hG7.g3; simp; omega
          have c0 : ∀ W, Onl go w7 W → W.cell? ⟨gi, 0, none⟩ = some (.int .i64 a) := fun W hW => by have := (hG7.ns.grown hW hne).cell 0; simpa [i3, s2] using this
          have c1 : ∀ W, Onl go w7 W → W.cell? ⟨gi, 1, none⟩ = some (.int .i64 b) := fun W hW => by have := (hG7.ns.grown hW hne).cell 1; simpa [i3, s2] using this
          have c2 : ∀ W, Onl go w7 W → W.cell? ⟨gi, 2, none⟩ = some (.int .i64 n) := fun W hW => by have := (hG7.ns.grown hW hne).cell 2; simpa [i3, s2] using this
          have q0 := hG7.ob.cell 2
          have f0 := hG7.ob.frozen 2
          have q1 := hG7.ob.cell 3
          have f1 := hG7.ob.frozen 3
          have q2 := hG7.ob.cell 4
          have f2 := hG7.ob.frozen 4
          simp only [OC] at q0 q1 q2
          simp at q0 q1 q2
          have HGF : Hid (OG2 w (((w7.setCell ⟨go, 2, none⟩ (.int .i64 a)).setCell ⟨go, 3, none⟩ (.int .i64 b)).setCell ⟨go, 4, none⟩ (.int .i64 n)) g go gi gt sf v k a b n [] [] a b n s t) := Lib.hid (OG2.storeE (OG2.storeE (OG2.storeE hG7 2 (.int .i64 a) (a2 := a) (b2 := 0) (n2 := 0) (s2' := []) (t2 := []) rfl) 3 (.int .i64 b) (a2 := a) (b2 := b) (n2 := 0) (s2' := []) (t2 := []) rfl) 4 (.int .i64 n) (a2 := a) (b2 := b) (n2 := n) (s2' := []) (t2 := []) rfl)
          clear hG7 hne
          iterate 10 (refine wpSeqR_take (o := ⟨_, _, _, _, _, _⟩) (v := ?_) rfl rfl ?_ ?_; rotate_left; (focus (intro W hW; go_simp; first | done | with_reducible rfl)); simp only [Act.put, List.setIfInBounds_toArray, List.set_cons_zero, List.set_cons_succ])
          refine wpSeqR_exec (o := ⟨_, _, _, _, _, _⟩) rfl rfl (fun K hK => ?_)
          go_simp
          refine hK _ _ (only_setCell (World.grownBy.refl _ _) (.inl rfl) _) ?_
          clear hK K
          clear c0 c1 c2
          iterate 1 (refine wpSeqR_take (o := ⟨_, _, _, _, _, _⟩) (v := ?_) rfl rfl ?_ ?_; rotate_left; (focus (intro W hW; go_simp; first | done | with_reducible rfl)); simp only [Act.put, List.setIfInBounds_toArray, List.set_cons_zero, List.set_cons_succ])
          refine wpSeqR_exec (o := ⟨_, _, _, _, _, _⟩) rfl rfl (fun K hK => ?_)
          go_simp
          refine hK _ _ (only_setCell (World.grownBy.refl _ _) (.inl rfl) _) ?_
          clear hK K
          iterate 1 (refine wpSeqR_take (o := ⟨_, _, _, _, _, _⟩) (v := ?_) rfl rfl ?_ ?_; rotate_left; (focus (intro W hW; go_simp; first | done | with_reducible rfl)); simp only [Act.put, List.setIfInBounds_toArray, List.set_cons_zero, List.set_cons_succ])
          refine wpSeqR_exec (o := ⟨_, _, _, _, _, _⟩) rfl rfl (fun K hK => ?_)
          go_simp
          refine hK _ _ (only_setCell (World.grownBy.refl _ _) (.inl rfl) _) ?_
          clear hK K
          refine wpSeqR_nil ?_
          clear q0 q1 q2 f0 f1 f2
          have hG := HGF.out
          clear HGF
          generalize (((w7.setCell ⟨go, 2, none⟩ (.int .i64 a)).setCell ⟨go, 3, none⟩ (.int .i64 b)).setCell ⟨go, 4, none⟩ (.int .i64 n)) = w8 at *
          go_wp2_with fail
          refine wp_region_seqD (Onl go) (Onl.refl go) Onl.trans (by kernel_rfl) [(0, true), (1, true), (2, true), (3, true), (4, true), (5, true), (6, true), (7, false), (8, true), (9, false)] (by kernel_rfl) rfl (by kernel_rfl) ?_
          have hG7 := hG.drew
          clear hG
          generalize w8.drew = w7 at *
          have hne : some gt ≠ some go := by have := hG7.g2; have := hG7.g3; simp; omega
          have c0 : ∀ W, Onl go w7 W → W.cell? ⟨gt, 0, none⟩ = some (.string ⟨s.toArray⟩) := fun W hW => by have := (hG7.ts.grown hW hne).cell 0; simpa [i3, s2] using this
          have c1 : ∀ W, Onl go w7 W → W.cell? ⟨gt, 1, none⟩ = some (.string ⟨t.toArray⟩) := fun W hW => by have := (hG7.ts.grown hW hne).cell 1; simpa [i3, s2] using this
          have q0 := hG7.ob.cell 5
          have f0 := hG7.ob.frozen 5
          have q1 := hG7.ob.cell 6
          have f1 := hG7.ob.frozen 6
          simp only [OC] at q0 q1
          simp at q0 q1
          have HGF : Hid (OG2 w ((w7.setCell ⟨go, 5, none⟩ (.string ⟨s.toArray⟩)).setCell ⟨go, 6, none⟩ (.string ⟨t.toArray⟩)) g go gi gt sf v k a b n s t a b n s t) := Lib.hid (OG2.storeE (OG2.storeE hG7 5 (.string ⟨s.toArray⟩) (a2 := a) (b2 := b) (n2 := n) (s2' := s) (t2 := []) rfl) 6 (.string ⟨t.toArray⟩) (a2 := a) (b2 := b) (n2 := n) (s2' := s) (t2 := t) rfl)
          clear hG7 hne
          iterate 7 (refine wpSeqR_take (o := ⟨_, _, _, _, _, _⟩) (v := ?_) rfl rfl ?_ ?_; rotate_left; (focus (intro W hW; go_simp; first | done | with_reducible rfl)); simp only [Act.put, List.setIfInBounds_toArray, List.set_cons_zero, List.set_cons_succ])
          refine wpSeqR_exec (o := ⟨_, _, _, _, _, _⟩) rfl rfl (fun K hK => ?_)
          go_simp
          refine hK _ _ (only_setCell (World.grownBy.refl _ _) (.inl rfl) _) ?_
          clear hK K
          clear c0 c1
          iterate 1 (refine wpSeqR_take (o := ⟨_, _, _, _, _, _⟩) (v := ?_) rfl rfl ?_ ?_; rotate_left; (focus (intro W hW; go_simp; first | done | with_reducible rfl)); simp only [Act.put, List.setIfInBounds_toArray, List.set_cons_zero, List.set_cons_succ])
          refine wpSeqR_exec (o := ⟨_, _, _, _, _, _⟩) rfl rfl (fun K hK => ?_)
          go_simp
          refine hK _ _ (only_setCell (World.grownBy.refl _ _) (.inl rfl) _) ?_
          clear hK K
          refine wpSeqR_nil ?_
          clear q0 q1 f0 f1
          have hG := HGF.out
          clear HGF
          generalize ((w7.setCell ⟨go, 5, none⟩ (.string ⟨s.toArray⟩)).setCell ⟨go, 6, none⟩ (.string ⟨t.toArray⟩)) = w9 at *
          have hsz := hG.bel.size
          have hrl := hG.rd.lt
          obtain ⟨rA, rn, rc, hblk, hBs, hrnc, hrn⟩ := hG.rd
          have hbsl := hBs.len
          have r0 := hblk.cell 0
          have r1 := hblk.cell 1
          simp at r0 r1
          have ec0 := hG.ob.cell 0
          have ec1 := hG.ob.cell 1
          have ec2 := hG.ob.cell 2
          have ec3 := hG.ob.cell 3
          have ec4 := hG.ob.cell 4
          have ec5 := hG.ob.cell 5
          have ec6 := hG.ob.cell 6
          simp only [OC] at ec0 ec1 ec2 ec3 ec4 ec5 ec6
          simp at ec0 ec1 ec2 ec3 ec4 ec5 ec6
          have qc0 := hG.res.cell 0
          have qc1 := hG.res.cell 1
          have qc2 := hG.res.cell 2
          have qc3 := hG.res.cell 3
          have qc4 := hG.res.cell 4
          have qc5 := hG.res.cell 5
          have qc6 := hG.res.cell 6
          simp only [OC] at qc0 qc1 qc2 qc3 qc4 qc5 qc6
          simp at qc0 qc1 qc2 qc3 qc4 qc5 qc6
          have hfz := hG.res.frozen
          clear hblk hBs
          have HG := Lib.hid hG
          clear hG
          obtain ⟨fl, fb⟩ := sf
          simp only at HY r1 hbsl
          cases fb with
          | true =>
            have HR := Lib.hid (HY.out.trans (if_neg (fun h => by cases h.1)))
            clear HY HCK
            go_wp2_with fail
            have HZ := set7 HG.out.res rfl (.int .i64 0) (.int .i64 0) (.int .i64 0) (.int .i64 0) (.int .i64 0) (.string ⟨#[]⟩) (.string ⟨#[]⟩)
            have z0 := HZ.cell 0
            have z1 := HZ.cell 1
            have z2 := HZ.cell 2
            have z3 := HZ.cell 3
            have z4 := HZ.cell 4
            have z5 := HZ.cell 5
            have z6 := HZ.cell 6
            simp at z0 z1 z2 z3 z4 z5 z6
            exact bodyPost_ret (v := getORV none) (by simp [results, Tryz.results64, go_sem, getORV, OC, z0, z1, z2, z3, z4, z5, z6]) rfl ⟨by rw [HR.out], bel7 HG.out.bel (Nat.le_refl _) _ _ _ _ _ _ _⟩
          | false =>
            by_cases hfl : 0 < rn
            · have HR := Lib.hid (HY.out.trans (if_neg (fun h => by rw [h.2.1] at hbsl; simp at hbsl; omega)))
              clear HY HCK
              go_wp2_with fail
              have HZ := set7 HG.out.res rfl (.int .i64 0) (.int .i64 0) (.int .i64 0) (.int .i64 0) (.int .i64 0) (.string ⟨#[]⟩) (.string ⟨#[]⟩)
              have z0 := HZ.cell 0
              have z1 := HZ.cell 1
              have z2 := HZ.cell 2
              have z3 := HZ.cell 3
              have z4 := HZ.cell 4
              have z5 := HZ.cell 5
              have z6 := HZ.cell 6
              simp at z0 z1 z2 z3 z4 z5 z6
              exact bodyPost_ret (v := getORV none) (by simp [results, Tryz.results64, go_sem, getORV, OC, z0, z1, z2, z3, z4, z5, z6]) rfl ⟨by rw [HR.out], bel7 HG.out.bel (Nat.le_refl _) _ _ _ _ _ _ _⟩
            · have hfn : fl = [] := List.eq_nil_of_length_eq_zero (by omega)
              have hrn0 : rn = 0 := by omega
              subst hfn
              subst hrn0
              clear hfl hbsl
              cases hok : Ol.ok ⟨v, k, a, b, n, s, t⟩ with
              | false =>
                have HR := Lib.hid (HY.out.trans (if_neg (fun h => by have h3 := h.2.2; rw [hok] at h3; cases h3)))
                rw [hok] at HCK
                simp only [OC] at HCK
                clear HY hok
                go_wp2_with fail
                (with_reducible refine (HCK.out _).mono ?_)
                rintro e wA ⟨rfl, hbA⟩
                have hresA := HG.out.res.below hbA HG.out.res.lt
                have BA := bel_step HG.out.bel hbA
                have hfzA := hresA.frozen
                have qa0 := hresA.cell 0
                have qa1 := hresA.cell 1
                have qa2 := hresA.cell 2
                have qa3 := hresA.cell 3
                have qa4 := hresA.cell 4
                have qa5 := hresA.cell 5
                have qa6 := hresA.cell 6
                simp only [OC] at qa0 qa1 qa2 qa3 qa4 qa5 qa6
                simp at qa0 qa1 qa2 qa3 qa4 qa5 qa6
                have HRES := Lib.hid hresA
                clear hresA hbA
                go_wp2_with fail
                have HZ := set7 HRES.out rfl (.int .i64 0) (.int .i64 0) (.int .i64 0) (.int .i64 0) (.int .i64 0) (.string ⟨#[]⟩) (.string ⟨#[]⟩)
                have z0 := HZ.cell 0
                have z1 := HZ.cell 1
                have z2 := HZ.cell 2
                have z3 := HZ.cell 3
                have z4 := HZ.cell 4
                have z5 := HZ.cell 5
                have z6 := HZ.cell 6
                simp at z0 z1 z2 z3 z4 z5 z6
                exact bodyPost_ret (v := getORV none) (by simp [results, Tryz.results64, go_sem, getORV, OC, z0, z1, z2, z3, z4, z5, z6]) rfl ⟨by rw [HR.out], bel7 BA (Nat.le_refl _) _ _ _ _ _ _ _⟩
              | true =>
                have HR := Lib.hid (HY.out.trans (if_pos ⟨rfl, rfl, hok⟩))
                rw [hok] at HCK
                simp only [OC] at HCK
                clear HY hok
                go_wp2_with fail
                (with_reducible refine (HCK.out _).mono ?_)
                rintro e wA ⟨rfl, hbA⟩
                have hevA := HG.out.ob.below hbA HG.out.ob.lt
                have hresA := HG.out.res.below hbA HG.out.res.lt
                have BA := bel_step HG.out.bel hbA
                have hfzA := hresA.frozen
                have qa0 := hresA.cell 0
                have qa1 := hresA.cell 1
                have qa2 := hresA.cell 2
                have qa3 := hresA.cell 3
                have qa4 := hresA.cell 4
                have qa5 := hresA.cell 5
                have qa6 := hresA.cell 6
                simp only [OC] at qa0 qa1 qa2 qa3 qa4 qa5 qa6
                simp at qa0 qa1 qa2 qa3 qa4 qa5 qa6
                have ea0 := hevA.cell 0
                have ea1 := hevA.cell 1
                have ea2 := hevA.cell 2
                have ea3 := hevA.cell 3
                have ea4 := hevA.cell 4
                have ea5 := hevA.cell 5
                have ea6 := hevA.cell 6
                simp only [OC] at ea0 ea1 ea2 ea3 ea4 ea5 ea6
                simp at ea0 ea1 ea2 ea3 ea4 ea5 ea6
                have HRES := Lib.hid hresA
                clear hresA hbA hevA
                go_wp2_with fail
                have HZ := set7 HRES.out rfl (.int .i64 v) (.int .i64 k) (.int .i64 a) (.int .i64 b) (.int .i64 n) (.string ⟨s.toArray⟩) (.string ⟨t.toArray⟩)
                have z0 := HZ.cell 0
                have z1 := HZ.cell 1
                have z2 := HZ.cell 2
                have z3 := HZ.cell 3
                have z4 := HZ.cell 4
                have z5 := HZ.cell 5
                have z6 := HZ.cell 6
                simp at z0 z1 z2 z3 z4 z5 z6
                exact bodyPost_ret (v := getORV (some ⟨v, k, a, b, n, s, t⟩)) (by simp [results, Tryz.results64, go_sem, getORV, OC, z0, z1, z2, z3, z4, z5, z6]) rfl ⟨by rw [HR.out], bel7 BA (Nat.le_refl _) _ _ _ _ _ _ _⟩
end Go.Proofs.YtfepinnfhcjopaaGreatDoor
