/-
  The reference's Get: the event of bytes.
  CodeUses, CodeShort, CodePuts, CodeGets: the walks.
  CodePuts, CodeGets: the walks.
-/
import Derived.Test.YtfepinnfhcjopaaGreatDoorCdY
import Derived.Test.YtfepinnfhcjopaaGreatDoorCdB
import Derived.Test.YtfepinnfhcjopaaGreatDoorRdr
section
namespace Go.Proofs.YtfepinnfhcjopaaGreatDoor
open Go.RowKit Go.Nst
set_option maxRecDepth 100000
set_option linter.unusedVariables false
set_option linter.unusedSimpArgs false

theorem i3_u8 (a b n : Int) : ∀ (i : Nat) (x : UInt8), (#[Value.int .i64 a, .int .i64 b, .int .i64 n] : Array Value)[i]? ≠ some (Value.int .u8 (x.toNat : Int)) := by
  intro i x h
  by_cases hi : i < 3
  · rcases (by omega : i = 0 ∨ i = 1 ∨ i = 2) with rfl | rfl | rfl <;> simp at h
  · rw [Array.getElem?_eq_none (by simp; omega)] at h; cases h
theorem s3_u8 (s t u : ByteArray) : ∀ (i : Nat) (x : UInt8), (#[Value.string s, .string t, .string u] : Array Value)[i]? ≠ some (Value.int .u8 (x.toNat : Int)) := by
  intro i x h
  by_cases hi : i < 3
  · rcases (by omega : i = 0 ∨ i = 1 ∨ i = 2) with rfl | rfl | rfl <;> simp at h
  · rw [Array.getElem?_eq_none (by simp; omega)] at h; cases h
def i3 (a b n : Int) : Array Value := #[.int .i64 a, .int .i64 b, .int .i64 n]
def s3 (s t u : List UInt8) : Array Value := #[.string ⟨s.toArray⟩, .string ⟨t.toArray⟩, .string ⟨u.toArray⟩]
structure GS2 (w wr : World) (g ge gi gt : Nat) (s : RS) (k a b n : Int) (x y z : List UInt8) (a1 b1 n1 : Int) (x1 y1 z1 : List UInt8) : Prop where
  rd : RdT 57 wr g s
  ev : Blk wr ge 50 (evV k a b n x y z)
  res : Blk wr w.heap.size 50 (evV 0 0 0 0 [] [] [])
  ns : Blk wr gi 3 (i3 a1 b1 n1)
  ts : Blk wr gt 9 (s3 x1 y1 z1)
  bel : Below w.heap.size w wr
  g0 : w.heap.size < g
  g1 : g < ge
  g2 : ge < gi
  g3 : gi < gt
section
variable {w wr w3 : World} {g ge gi gt : Nat} {s s' : RS} {k a b n : Int} {x y z : List UInt8} {a1 b1 n1 : Int} {x1 y1 z1 : List UInt8}
theorem GS2.drew (h : GS2 w wr g ge gi gt s k a b n x y z a1 b1 n1 x1 y1 z1) : GS2 w wr.drew g ge gi gt s k a b n x y z a1 b1 n1 x1 y1 z1 := ⟨h.rd, h.ev, h.res, h.ns, h.ts, h.bel.drew, h.g0, h.g1, h.g2, h.g3⟩
theorem GS2.read (h : GS2 w wr g ge gi gt s k a b n x y z a1 b1 n1 x1 y1 z1) (hr : RdT 57 w3 g s') (hg : wr.grownBy w3 (some g)) : GS2 w w3 g ge gi gt s' k a b n x y z a1 b1 n1 x1 y1 z1 := by
  have h0 := h.g0
  have h1 := h.g1
  have h2 := h.g2
  have h3 := h.g3
  exact ⟨hr, h.ev.grown hg (by simp; omega), h.res.grown hg (by simp; omega), h.ns.grown hg (by simp; omega), h.ts.grown hg (by simp; omega), below_only h.bel hg (by omega) h.bel.size, h0, h1, h2, h3⟩
theorem GS2.storeN (h : GS2 w wr g ge gi gt s k a b n x y z a1 b1 n1 x1 y1 z1) (i : Nat) (v : Value) {a2 b2 n2 : Int} (hc : (i3 a1 b1 n1).setIfInBounds i v = i3 a2 b2 n2) : GS2 w (wr.setCell ⟨gi, i, none⟩ v) g ge gi gt s k a b n x y z a2 b2 n2 x1 y1 z1 := by
  have h0 := h.g0
  have h1 := h.g1
  have h2 := h.g2
  have h3 := h.g3
  exact ⟨RdT.store h.rd h.ns (by omega) (i3_u8 _ _ _) i v, h.ev.far (by simp; omega) v, h.res.far (by simp; omega) v, by rw [← hc]; exact h.ns.set_ i v, h.ts.far (by simp; omega) v, h.bel.setCell (p := ⟨gi, i, none⟩) (by simp; omega) v, h0, h1, h2, h3⟩
theorem GS2.storeT (h : GS2 w wr g ge gi gt s k a b n x y z a1 b1 n1 x1 y1 z1) (i : Nat) (v : Value) {x2 y2 z2 : List UInt8} (hc : (s3 x1 y1 z1).setIfInBounds i v = s3 x2 y2 z2) : GS2 w (wr.setCell ⟨gt, i, none⟩ v) g ge gi gt s k a b n x y z a1 b1 n1 x2 y2 z2 := by
  have h0 := h.g0
  have h1 := h.g1
  have h2 := h.g2
  have h3 := h.g3
  exact ⟨RdT.store h.rd h.ts (by omega) (s3_u8 _ _ _) i v, h.ev.far (by simp; omega) v, h.res.far (by simp; omega) v, h.ns.far (by simp; omega) v, by rw [← hc]; exact h.ts.set_ i v, h.bel.setCell (p := ⟨gt, i, none⟩) (by simp; omega) v, h0, h1, h2, h3⟩
theorem GS2.storeE (h : GS2 w wr g ge gi gt s k a b n x y z a1 b1 n1 x1 y1 z1) (i : Nat) (v : Value) {k2 a2 b2 n2 : Int} {x2 y2 z2 : List UInt8} (hc : (evV k a b n x y z).setIfInBounds i v = evV k2 a2 b2 n2 x2 y2 z2) : GS2 w (wr.setCell ⟨ge, i, none⟩ v) g ge gi gt s k2 a2 b2 n2 x2 y2 z2 a1 b1 n1 x1 y1 z1 := by
  have h0 := h.g0
  have h1 := h.g1
  have h2 := h.g2
  have h3 := h.g3
  exact ⟨RdT.store h.rd h.ev (by omega) (evV_u8 _ _ _ _ _ _ _) i v, by rw [← hc]; exact h.ev.set_ i v, h.res.far (by simp; omega) v, h.ns.far (by simp; omega) v, h.ts.far (by simp; omega) v, h.bel.setCell (p := ⟨ge, i, none⟩) (by simp; omega) v, h0, h1, h2, h3⟩
end
theorem mk3i (w : World) : (Instr.makeSlice 70 (.int .i64 3) (.int .i64 3)).run Tryz.prog w = .ok (.slice (some ⟨w.heap.size, 0, none⟩) 3 3) (w.alloc (.cells #[.int .i64 0, .int .i64 0, .int .i64 0] 3)) := by kernel_rfl
theorem mk3s (w : World) : (Instr.makeSlice 71 (.int .i64 3) (.int .i64 3)).run Tryz.prog w = .ok (.slice (some ⟨w.heap.size, 0, none⟩) 3 3) (w.alloc (.cells #[.string ⟨#[]⟩, .string ⟨#[]⟩, .string ⟨#[]⟩] 9)) := by kernel_rfl
def getRV (r : Option Ev) : Value := match r with
  | some e => .tuple #[.agg (evV e.k e.a e.b e.n e.s e.t e.u), .bool true]
  | none => .tuple #[.agg (evV 0 0 0 0 [] [] []), .bool false]
def gN (m : Nat) (s : RS) (z i : Nat) : Int := if i < z then vaN m s i else 0
def gT (q : Nat) (s : RS) (z i : Nat) : List UInt8 := if i < z then vaT q s i else []
set_option maxHeartbeats 8000000 in
theorem refGet15_any (A : Option Addr) (nn c : Nat) (l : List UInt8) (w : World) (hn : nn ≤ 20000) (hB : Bs w A nn l) : Calls Tryz.prog 63 #[.slice A nn c] w fun e w' => e = .returned (getRV (getE l)) ∧ Below w.heap.size w w' := by
  have hll : l.length ≤ 20000 := by rw [hB.len]; exact hn
  have hbl := byte_len ⟨l, false⟩
  simp only at hbl
  obtain ⟨r, hr⟩ : ∃ r, getE l = r := ⟨_, rfl⟩
  rw [hr]
  have HN := Lib.hid (fun h => hr.symm.trans (getE_no (l := l) h))
  have HY := Lib.hid (fun h => hr.symm.trans (getE_yes (l := l) h))
  clear hr
  obtain ⟨p, hp⟩ : ∃ p, RS.byte ⟨l, false⟩ = p := ⟨_, rfl⟩
  have HP := Lib.hid hp
  rw [hp] at HN HY hbl
  clear hp
  obtain ⟨b0, s0⟩ := p
  simp only at HN HY hbl
  have hBa := (hB.alloc (.cells (evV 0 0 0 0 [] [] []) 50)).alloc (.cells #[] 5)
  have hOa := Ow.made (base := w.heap.size + 1) (w.alloc (.cells (evV 0 0 0 0 [] [] []) 50)) [] #[] rfl (by unfold maxLen; simp) (by simp)
  simp only [evV, List.length_nil] at hBa hOa
  simp at hOa
  go_enter Tryz.func63, Tryz.ntmps63
  go_wp2_with (at_builtin; refine wpList_appBg _ iBytes rfl rfl rfl hOa rfl hBa nn l (by omega) (by simp) (by omega) (by simp) ?_; intro A1 c1 w1 ho1 hb1 _ _)
  have hs1 : w.heap.size + 2 ≤ w1.heap.size := by have := hb1.size; simp at this; omega
  have hres1 : Blk w1 w.heap.size 50 (evV 0 0 0 0 [] [] []) := ((Blk.new w _ _).alloc _).below hb1 (by omega)
  have B1 : Below w.heap.size w w1 := (bel_alloc (bel_alloc (Below.refl w.heap.size w) _) _).trans (hb1.mono (by omega))
  have hR : RdT 57 (w1.alloc (.cells #[.slice A1 nn c1, .bool false] 57)) w1.heap.size ⟨l, false⟩ := ⟨A1, nn, c1, Blk.new _ _ _, ho1.bs.alloc _, ho1.cap, by omega⟩
  have hres1 := hres1.alloc (.cells #[.slice A1 nn c1, .bool false] 57)
  have B1 := bel_alloc B1 (.cells #[.slice A1 nn c1, .bool false] 57)
  clear hb1 ho1 hBa hOa
  have HRB := Lib.hid (refByte_any w1.heap.size _ _ hR)
  rw [HP.out] at HRB
  have hgl := hR.lt
  generalize w1.alloc (.cells #[.slice A1 nn c1, .bool false] 57) = wx at *
  generalize w1.heap.size = g at *
  (with_reducible refine (HRB.out).mono ?_)
  rintro e w2 ⟨rfl, hR2, hg2⟩
  have hres2 := hres1.grown hg2 (by simp; omega)
  have B2 := below_only B1 hg2 (by omega) B1.size
  have hz2 : wx.heap.size ≤ w2.heap.size := hg2.size
  clear hg2 hR hres1 HRB B1
  by_cases h3 : b0 = 3
  · have HY := Lib.hid (HY.out h3)
    have d3 : ((b0 : Int) != 3) = false := by simp; omega
    have d3' : ((b0 : Int) == 3) = true := by simp; omega
    clear h3 HN
    have hbl2 := byte_len s0
    obtain ⟨p2, hp2⟩ : ∃ p, RS.byte s0 = p := ⟨_, rfl⟩
    have HP2 := Lib.hid hp2
    unfold rdEv at HY
    rw [hp2] at HY hbl2
    clear hp2
    obtain ⟨kN, s1⟩ := p2
    simp only at HY hbl2
    have HU := Lib.hid (fun W => refUses15_any (kN : Int) W)
    have hm8 := usesN_lt (kN : Int)
    have hq8 := usesT_lt (kN : Int)
    generalize usesN (kN : Int) = m at *
    generalize usesT (kN : Int) = q at *
    have hsl := stN_len m s1 3
    go_wp2_with fail
    (with_reducible refine (refByte_any g _ w2 hR2).mono ?_)
    rw [HP2.out]
    rintro e w3 ⟨rfl, hR3, hg3⟩
    have hres3 := hres2.grown hg3 (by simp; omega)
    have B3 := below_only B2 hg3 (by omega) B2.size
    have hz3 : w2.heap.size ≤ w3.heap.size := hg3.size
    clear hg3 hR2 hres2
    go_wp2_with fail
    (with_reducible refine (HU.out _).mono ?_)
    rintro e w4 ⟨rfl, rfl⟩
    have HG : Hid (GS2 w (((w3.alloc (.cells #[.int .i64 (kN : Int), .int .i64 0, .int .i64 0, .int .i64 0, .string ⟨#[]⟩, .string ⟨#[]⟩, .string ⟨#[]⟩] 50)).alloc (.cells #[.int .i64 0, .int .i64 0, .int .i64 0] 3)).alloc (.cells #[.string ⟨#[]⟩, .string ⟨#[]⟩, .string ⟨#[]⟩] 9)) g w3.heap.size (w3.heap.size + 1) (w3.heap.size + 1 + 1) (stN m s1 0) (kN : Int) 0 0 0 [] [] [] 0 0 0 [] [] []) := by
      have hbb := bel_alloc (bel_alloc (bel_alloc (Below.refl w3.heap.size w3) (.cells #[.int .i64 (kN : Int), .int .i64 0, .int .i64 0, .int .i64 0, .string ⟨#[]⟩, .string ⟨#[]⟩, .string ⟨#[]⟩] 50)) (.cells #[.int .i64 0, .int .i64 0, .int .i64 0] 3)) (.cells #[.string ⟨#[]⟩, .string ⟨#[]⟩, .string ⟨#[]⟩] 9)
      refine ⟨hR3.below hbb, ((Blk.new w3 _ _).alloc _).alloc _, hres3.below hbb (by omega), ?_, ?_, bel_step B3 hbb, by omega, by have := hR3.lt; omega, by omega, by omega⟩
      · have := (Blk.new (w3.alloc (.cells #[.int .i64 (kN : Int), .int .i64 0, .int .i64 0, .int .i64 0, .string ⟨#[]⟩, .string ⟨#[]⟩, .string ⟨#[]⟩] 50)) 3 (i3 0 0 0)).alloc (.cells #[.string ⟨#[]⟩, .string ⟨#[]⟩, .string ⟨#[]⟩] 9)
        simpa [i3] using this
      · have := Blk.new ((w3.alloc (.cells #[.int .i64 (kN : Int), .int .i64 0, .int .i64 0, .int .i64 0, .string ⟨#[]⟩, .string ⟨#[]⟩, .string ⟨#[]⟩] 50)).alloc (.cells #[.int .i64 0, .int .i64 0, .int .i64 0] 3)) 9 (s3 [] [] [])
        simpa [s3] using this
    have hmk1 := mk3i
    have hmk2 := mk3s
    clear hres3 hR3 B3
    go_wp2_with fail
    generalize hge : w3.heap.size = ge at *
    clear hge hmk1 hmk2
    generalize hgi : ge + 1 = gi at *
    generalize hgt : gi + 1 = gt at *
    clear hgi hgt
    have HSL := Lib.hid hsl
    go_loopw [10] (fun i wr => ∃ (z : Int), 0 ≤ z ∧ z ≤ 3 ∧ i = .int .i64 z ∧ GS2 w wr g ge gi gt (stN m s1 z.toNat) (kN : Int) 0 0 0 [] [] [] (gN m s1 z.toNat 0) (gN m s1 z.toNat 1) (gN m s1 z.toNat 2) [] [] []) (fun i _ => (3 - intOf i).toNat)
    case atStart => exact ⟨0, by omega, by omega, rfl, HG.out⟩
    case round =>
      clear HG
      obtain ⟨z, hz0, hz3, rfl, hG⟩ := hrel
      generalize hk : (kN : Int) = k at *
      have HKK := Lib.hid hk
      clear hk
      rcases (by omega : z = 0 ∨ z = 1 ∨ z = 2 ∨ z = 3) with rfl | rfl | rfl | rfl
      · have hG : GS2 w wr g ge gi gt (stN m s1 0) k 0 0 0 [] [] [] 0 0 0 [] [] [] := hG
        cases hbt : bitB m 0 with
        | true =>
          have e1 : (bits .and .i64 (m : Int) 1 == 1) = true := (bitT_0 hm8).trans hbt
          have HS : Hid ((stN m s1 0).num = (vaN m s1 0, stN m s1 1)) := Lib.hid (by rw [stN_0]; unfold vaN; rw [rdN_yes hbt])
          have HR := Lib.hid (refNum_any g (stN m s1 0) wr hG.rd)
          rw [HS.out] at HR
          clear hbt HS
          have HGS : Hid (∀ W, RdT 57 W g (stN m s1 1) → wr.grownBy W (some g) → GS2 w (W.setCell ⟨gi, 0, none⟩ (.int .i64 (vaN m s1 0))) g ge gi gt (stN m s1 1) k 0 0 0 [] [] [] (vaN m s1 0) 0 0 [] [] []) := Lib.hid (fun W h1 h2 => GS2.storeN (GS2.read (w3 := W) hG h1 h2) 0 _ rfl)
          have HEV := Lib.hid (fun W (h1 : RdT 57 W g (stN m s1 1)) (h2 : wr.grownBy W (some g)) => (GS2.read (w3 := W) hG h1 h2).ns)
          go_wp2_with fail
          (with_reducible refine (HR.out).mono ?_)
          rintro e w3 ⟨rfl, hR3, hg3⟩
          have hev := HEV.out w3 hR3 hg3
          have q1 := hev.cell 0
          have q2 := hev.frozen 0
          simp only [i3, s3] at q1
          simp at q1
          go_wp2_with fail
          go_roundw
          case rel => exact ⟨1, by omega, by omega, rfl, HGS.out w3 hR3 hg3⟩
          case measure => simp [intOf]
        | false =>
          have e1 : (bits .and .i64 (m : Int) 1 == 1) = false := (bitT_0 hm8).trans hbt
          have h1 : stN m s1 1 = (stN m s1 0) := by rw [stN_0, rdN_no hbt]
          have h2 : vaN m s1 0 = 0 := by unfold vaN; rw [rdN_no hbt]
          have hG2 : GS2 w wr g ge gi gt (stN m s1 1) k 0 0 0 [] [] [] (vaN m s1 0) 0 0 [] [] [] := by rw [h1, h2]; exact hG
          have HG := Lib.hid hG2
          clear hbt h1 h2 hG hG2
          go_wp2_with fail
          go_roundw
          case rel => exact ⟨1, by omega, by omega, rfl, HG.out⟩
          case measure => simp [intOf]
      · have hG : GS2 w wr g ge gi gt (stN m s1 1) k 0 0 0 [] [] [] (vaN m s1 0) 0 0 [] [] [] := hG
        cases hbt : bitB m 1 with
        | true =>
          have e1 : (bits .and .i64 ((m : Int) / 2) 1 == 1) = true := (bitT_1 hm8).trans hbt
          have HS : Hid ((stN m s1 1).num = (vaN m s1 1, stN m s1 2)) := Lib.hid (by rw [stN_1]; unfold vaN; rw [rdN_yes hbt])
          have HR := Lib.hid (refNum_any g (stN m s1 1) wr hG.rd)
          rw [HS.out] at HR
          clear hbt HS
          have HGS : Hid (∀ W, RdT 57 W g (stN m s1 2) → wr.grownBy W (some g) → GS2 w (W.setCell ⟨gi, 1, none⟩ (.int .i64 (vaN m s1 1))) g ge gi gt (stN m s1 2) k 0 0 0 [] [] [] (vaN m s1 0) (vaN m s1 1) 0 [] [] []) := Lib.hid (fun W h1 h2 => GS2.storeN (GS2.read (w3 := W) hG h1 h2) 1 _ rfl)
          have HEV := Lib.hid (fun W (h1 : RdT 57 W g (stN m s1 2)) (h2 : wr.grownBy W (some g)) => (GS2.read (w3 := W) hG h1 h2).ns)
          go_wp2_with fail
          (with_reducible refine (HR.out).mono ?_)
          rintro e w3 ⟨rfl, hR3, hg3⟩
          have hev := HEV.out w3 hR3 hg3
          have q1 := hev.cell 1
          have q2 := hev.frozen 1
          simp only [i3, s3] at q1
          simp at q1
          go_wp2_with fail
          go_roundw
          case rel => exact ⟨2, by omega, by omega, rfl, HGS.out w3 hR3 hg3⟩
          case measure => simp [intOf]
        | false =>
          have e1 : (bits .and .i64 ((m : Int) / 2) 1 == 1) = false := (bitT_1 hm8).trans hbt
          have h1 : stN m s1 2 = (stN m s1 1) := by rw [stN_1, rdN_no hbt]
          have h2 : vaN m s1 1 = 0 := by unfold vaN; rw [rdN_no hbt]
          have hG2 : GS2 w wr g ge gi gt (stN m s1 2) k 0 0 0 [] [] [] (vaN m s1 0) (vaN m s1 1) 0 [] [] [] := by rw [h1, h2]; exact hG
          have HG := Lib.hid hG2
          clear hbt h1 h2 hG hG2
          go_wp2_with fail
          go_roundw
          case rel => exact ⟨2, by omega, by omega, rfl, HG.out⟩
          case measure => simp [intOf]
      · have hG : GS2 w wr g ge gi gt (stN m s1 2) k 0 0 0 [] [] [] (vaN m s1 0) (vaN m s1 1) 0 [] [] [] := hG
        cases hbt : bitB m 2 with
        | true =>
          have e1 : (bits .and .i64 ((m : Int) / 4) 1 == 1) = true := (bitT_2 hm8).trans hbt
          have HS : Hid ((stN m s1 2).num = (vaN m s1 2, stN m s1 3)) := Lib.hid (by rw [stN_2]; unfold vaN; rw [rdN_yes hbt])
          have HR := Lib.hid (refNum_any g (stN m s1 2) wr hG.rd)
          rw [HS.out] at HR
          clear hbt HS
          have HGS : Hid (∀ W, RdT 57 W g (stN m s1 3) → wr.grownBy W (some g) → GS2 w (W.setCell ⟨gi, 2, none⟩ (.int .i64 (vaN m s1 2))) g ge gi gt (stN m s1 3) k 0 0 0 [] [] [] (vaN m s1 0) (vaN m s1 1) (vaN m s1 2) [] [] []) := Lib.hid (fun W h1 h2 => GS2.storeN (GS2.read (w3 := W) hG h1 h2) 2 _ rfl)
          have HEV := Lib.hid (fun W (h1 : RdT 57 W g (stN m s1 3)) (h2 : wr.grownBy W (some g)) => (GS2.read (w3 := W) hG h1 h2).ns)
          go_wp2_with fail
          (with_reducible refine (HR.out).mono ?_)
          rintro e w3 ⟨rfl, hR3, hg3⟩
          have hev := HEV.out w3 hR3 hg3
          have q1 := hev.cell 2
          have q2 := hev.frozen 2
          simp only [i3, s3] at q1
          simp at q1
          go_wp2_with fail
          go_roundw
          case rel => exact ⟨3, by omega, by omega, rfl, HGS.out w3 hR3 hg3⟩
          case measure => simp [intOf]
        | false =>
          have e1 : (bits .and .i64 ((m : Int) / 4) 1 == 1) = false := (bitT_2 hm8).trans hbt
          have h1 : stN m s1 3 = (stN m s1 2) := by rw [stN_2, rdN_no hbt]
          have h2 : vaN m s1 2 = 0 := by unfold vaN; rw [rdN_no hbt]
          have hG2 : GS2 w wr g ge gi gt (stN m s1 3) k 0 0 0 [] [] [] (vaN m s1 0) (vaN m s1 1) (vaN m s1 2) [] [] [] := by rw [h1, h2]; exact hG
          have HG := Lib.hid hG2
          clear hbt h1 h2 hG hG2
          go_wp2_with fail
          go_roundw
          case rel => exact ⟨3, by omega, by omega, rfl, HG.out⟩
          case measure => simp [intOf]
      · have hG : GS2 w wr g ge gi gt (stN m s1 3) k 0 0 0 [] [] [] (vaN m s1 0) (vaN m s1 1) (vaN m s1 2) [] [] [] := hG
        generalize vaN m s1 0 = a at *
        generalize vaN m s1 1 = b at *
        generalize vaN m s1 2 = n at *
        generalize stN m s1 3 = s2 at *
        have HG := Lib.hid hG
        obtain ⟨wo, rfl⟩ : ∃ wo : World, wo = wr := ⟨_, rfl⟩
        go_wp2_with fail
        clear hG
        go_loopw [11] (fun i wr => ∃ (z : Int), 0 ≤ z ∧ z ≤ 3 ∧ i = .int .i64 z ∧ GS2 w wr g ge gi gt (stT q s2 z.toNat) k 0 0 0 [] [] [] a b n (gT q s2 z.toNat 0) (gT q s2 z.toNat 1) (gT q s2 z.toNat 2)) (fun i _ => (3 - intOf i).toNat)
        case atStart => exact ⟨0, by omega, by omega, rfl, HG.out⟩
        case round =>
          clear HG
          obtain ⟨z, hz0, hz3, rfl, hG⟩ := hrel
          rcases (by omega : z = 0 ∨ z = 1 ∨ z = 2 ∨ z = 3) with rfl | rfl | rfl | rfl
          · have hG : GS2 w wr g ge gi gt (stT q s2 0) k 0 0 0 [] [] [] a b n [] [] [] := hG
            cases hbt : bitB q 0 with
            | true =>
              have e1 : (bits .and .i64 (q : Int) 1 == 1) = true := (bitT_0 hq8).trans hbt
              have HS : Hid ((stT q s2 0).text = (vaT q s2 0, stT q s2 1)) := Lib.hid (by rw [stT_0]; unfold vaT; rw [rdT_yes hbt])
              have HR := Lib.hid (refText_any g (stT q s2 0) wr hG.rd)
              rw [HS.out] at HR
              clear hbt HS
              have HGS : Hid (∀ W, RdT 57 W g (stT q s2 1) → wr.grownBy W (some g) → GS2 w (W.setCell ⟨gt, 0, none⟩ (.string ⟨(vaT q s2 0).toArray⟩)) g ge gi gt (stT q s2 1) k 0 0 0 [] [] [] a b n (vaT q s2 0) [] []) := Lib.hid (fun W h1 h2 => GS2.storeT (GS2.read (w3 := W) hG h1 h2) 0 _ rfl)
              have HEV := Lib.hid (fun W (h1 : RdT 57 W g (stT q s2 1)) (h2 : wr.grownBy W (some g)) => (GS2.read (w3 := W) hG h1 h2).ts)
              go_wp2_with fail
              (with_reducible refine (HR.out).mono ?_)
              rintro e w3 ⟨rfl, hR3, hg3⟩
              have hev := HEV.out w3 hR3 hg3
              have q1 := hev.cell 0
              have q2 := hev.frozen 0
              simp only [i3, s3] at q1
              simp at q1
              go_wp2_with fail
              go_roundw
              case rel => exact ⟨1, by omega, by omega, rfl, HGS.out w3 hR3 hg3⟩
              case measure => simp [intOf]
            | false =>
              have e1 : (bits .and .i64 (q : Int) 1 == 1) = false := (bitT_0 hq8).trans hbt
              have h1 : stT q s2 1 = (stT q s2 0) := by rw [stT_0, rdT_no hbt]
              have h2 : vaT q s2 0 = [] := by unfold vaT; rw [rdT_no hbt]
              have hG2 : GS2 w wr g ge gi gt (stT q s2 1) k 0 0 0 [] [] [] a b n (vaT q s2 0) [] [] := by rw [h1, h2]; exact hG
              have HG := Lib.hid hG2
              clear hbt h1 h2 hG hG2
              go_wp2_with fail
              go_roundw
              case rel => exact ⟨1, by omega, by omega, rfl, HG.out⟩
              case measure => simp [intOf]
          · have hG : GS2 w wr g ge gi gt (stT q s2 1) k 0 0 0 [] [] [] a b n (vaT q s2 0) [] [] := hG
            cases hbt : bitB q 1 with
            | true =>
              have e1 : (bits .and .i64 ((q : Int) / 2) 1 == 1) = true := (bitT_1 hq8).trans hbt
              have HS : Hid ((stT q s2 1).text = (vaT q s2 1, stT q s2 2)) := Lib.hid (by rw [stT_1]; unfold vaT; rw [rdT_yes hbt])
              have HR := Lib.hid (refText_any g (stT q s2 1) wr hG.rd)
              rw [HS.out] at HR
              clear hbt HS
              have HGS : Hid (∀ W, RdT 57 W g (stT q s2 2) → wr.grownBy W (some g) → GS2 w (W.setCell ⟨gt, 1, none⟩ (.string ⟨(vaT q s2 1).toArray⟩)) g ge gi gt (stT q s2 2) k 0 0 0 [] [] [] a b n (vaT q s2 0) (vaT q s2 1) []) := Lib.hid (fun W h1 h2 => GS2.storeT (GS2.read (w3 := W) hG h1 h2) 1 _ rfl)
              have HEV := Lib.hid (fun W (h1 : RdT 57 W g (stT q s2 2)) (h2 : wr.grownBy W (some g)) => (GS2.read (w3 := W) hG h1 h2).ts)
              go_wp2_with fail
              (with_reducible refine (HR.out).mono ?_)
              rintro e w3 ⟨rfl, hR3, hg3⟩
              have hev := HEV.out w3 hR3 hg3
              have q1 := hev.cell 1
              have q2 := hev.frozen 1
              simp only [i3, s3] at q1
              simp at q1
              go_wp2_with fail
              go_roundw
              case rel => exact ⟨2, by omega, by omega, rfl, HGS.out w3 hR3 hg3⟩
              case measure => simp [intOf]
            | false =>
              have e1 : (bits .and .i64 ((q : Int) / 2) 1 == 1) = false := (bitT_1 hq8).trans hbt
              have h1 : stT q s2 2 = (stT q s2 1) := by rw [stT_1, rdT_no hbt]
              have h2 : vaT q s2 1 = [] := by unfold vaT; rw [rdT_no hbt]
              have hG2 : GS2 w wr g ge gi gt (stT q s2 2) k 0 0 0 [] [] [] a b n (vaT q s2 0) (vaT q s2 1) [] := by rw [h1, h2]; exact hG
              have HG := Lib.hid hG2
              clear hbt h1 h2 hG hG2
              go_wp2_with fail
              go_roundw
              case rel => exact ⟨2, by omega, by omega, rfl, HG.out⟩
              case measure => simp [intOf]
          · have hG : GS2 w wr g ge gi gt (stT q s2 2) k 0 0 0 [] [] [] a b n (vaT q s2 0) (vaT q s2 1) [] := hG
            cases hbt : bitB q 2 with
            | true =>
              have e1 : (bits .and .i64 ((q : Int) / 4) 1 == 1) = true := (bitT_2 hq8).trans hbt
              have HS : Hid ((stT q s2 2).text = (vaT q s2 2, stT q s2 3)) := Lib.hid (by rw [stT_2]; unfold vaT; rw [rdT_yes hbt])
              have HR := Lib.hid (refText_any g (stT q s2 2) wr hG.rd)
              rw [HS.out] at HR
              clear hbt HS
              have HGS : Hid (∀ W, RdT 57 W g (stT q s2 3) → wr.grownBy W (some g) → GS2 w (W.setCell ⟨gt, 2, none⟩ (.string ⟨(vaT q s2 2).toArray⟩)) g ge gi gt (stT q s2 3) k 0 0 0 [] [] [] a b n (vaT q s2 0) (vaT q s2 1) (vaT q s2 2)) := Lib.hid (fun W h1 h2 => GS2.storeT (GS2.read (w3 := W) hG h1 h2) 2 _ rfl)
              have HEV := Lib.hid (fun W (h1 : RdT 57 W g (stT q s2 3)) (h2 : wr.grownBy W (some g)) => (GS2.read (w3 := W) hG h1 h2).ts)
              go_wp2_with fail
              (with_reducible refine (HR.out).mono ?_)
              rintro e w3 ⟨rfl, hR3, hg3⟩
              have hev := HEV.out w3 hR3 hg3
              have q1 := hev.cell 2
              have q2 := hev.frozen 2
              simp only [i3, s3] at q1
              simp at q1
              go_wp2_with fail
              go_roundw
              case rel => exact ⟨3, by omega, by omega, rfl, HGS.out w3 hR3 hg3⟩
              case measure => simp [intOf]
            | false =>
              have e1 : (bits .and .i64 ((q : Int) / 4) 1 == 1) = false := (bitT_2 hq8).trans hbt
              have h1 : stT q s2 3 = (stT q s2 2) := by rw [stT_2, rdT_no hbt]
              have h2 : vaT q s2 2 = [] := by unfold vaT; rw [rdT_no hbt]
              have hG2 : GS2 w wr g ge gi gt (stT q s2 3) k 0 0 0 [] [] [] a b n (vaT q s2 0) (vaT q s2 1) (vaT q s2 2) := by rw [h1, h2]; exact hG
              have HG := Lib.hid hG2
              clear hbt h1 h2 hG hG2
              go_wp2_with fail
              go_roundw
              case rel => exact ⟨3, by omega, by omega, rfl, HG.out⟩
              case measure => simp [intOf]
          · have hG : GS2 w wr g ge gi gt (stT q s2 3) k 0 0 0 [] [] [] a b n (vaT q s2 0) (vaT q s2 1) (vaT q s2 2) := hG
            have hs := vaT_len q s2 0
            have ht := vaT_len q s2 1
            have hu := vaT_len q s2 2
            generalize vaT q s2 0 = s at *
            generalize vaT q s2 1 = t at *
            generalize vaT q s2 2 = u at *
            generalize stT q s2 3 = sf at *
            have HCK := Lib.hid (fun W => refCheck_any k a b n s t u W (by omega) (by omega) (by omega))
            go_wp2_with fail
            refine wp_region_seqD (Onl ge) (Onl.refl ge) Onl.trans (by kernel_rfl) [(0, true), (1, true), (2, true), (3, true), (4, true), (5, true), (6, true), (7, true), (8, true), (9, true), (10, false), (11, true), (12, false), (13, true), (14, false)] (by kernel_rfl) rfl (by kernel_rfl) ?_
            have hG7 := hG.drew
            clear hG
            generalize wr.drew = w7 at *
            have hne : some gi ≠ some ge := by have := hG7.g2; have := hG7.g3; simp; omega
            have c0 : ∀ W, Onl ge w7 W → W.cell? ⟨gi, 0, none⟩ = some (.int .i64 a) := fun W hW => by have := (hG7.ns.grown hW hne).cell 0; simpa [i3, s3] using this
            have c1 : ∀ W, Onl ge w7 W → W.cell? ⟨gi, 1, none⟩ = some (.int .i64 b) := fun W hW => by have := (hG7.ns.grown hW hne).cell 1; simpa [i3, s3] using this
            have c2 : ∀ W, Onl ge w7 W → W.cell? ⟨gi, 2, none⟩ = some (.int .i64 n) := fun W hW => by have := (hG7.ns.grown hW hne).cell 2; simpa [i3, s3] using this
            have q0 := hG7.ev.cell 1
            have f0 := hG7.ev.frozen 1
            have q1 := hG7.ev.cell 2
            have f1 := hG7.ev.frozen 2
            have q2 := hG7.ev.cell 3
            have f2 := hG7.ev.frozen 3
            simp only [evV] at q0 q1 q2
            simp at q0 q1 q2
            have HGF : Hid (GS2 w (((w7.setCell ⟨ge, 1, none⟩ (.int .i64 a)).setCell ⟨ge, 2, none⟩ (.int .i64 b)).setCell ⟨ge, 3, none⟩ (.int .i64 n)) g ge gi gt sf k a b n [] [] [] a b n s t u) := Lib.hid (GS2.storeE (GS2.storeE (GS2.storeE hG7 1 (.int .i64 a) (k2 := k) (a2 := a) (b2 := 0) (n2 := 0) (x2 := []) (y2 := []) (z2 := []) rfl) 2 (.int .i64 b) (k2 := k) (a2 := a) (b2 := b) (n2 := 0) (x2 := []) (y2 := []) (z2 := []) rfl) 3 (.int .i64 n) (k2 := k) (a2 := a) (b2 := b) (n2 := n) (x2 := []) (y2 := []) (z2 := []) rfl)
            clear hG7 hne
            iterate 10 (refine wpSeqR_take (o := ⟨_, _, _, _, _, _⟩) (v := ?_) rfl rfl ?_ ?_; rotate_left; (focus (intro W hW; go_simp; first | done | with_reducible rfl)); simp only [Act.put, List.setIfInBounds_toArray, List.set_cons_zero, List.set_cons_succ])
            refine wpSeqR_exec (o := ⟨_, _, _, _, _, _⟩) rfl rfl (fun K hK => ?_)
            go_simp
            refine hK _ _ (only_setCell (World.grownBy.refl _ _) (.inl rfl) _) ?_
            clear hK K
            clear c0 c1 c2
            iterate 1 (refine wpSeqR_take (o := ⟨_, _, _, _, _, _⟩) (v := ?_) rfl rfl ?_ ?_; rotate_left; (focus (intro W hW; go_simp; first | done | with_reducible rfl)); simp only [Act.put, List.setIfInBounds_toArray, List.set_cons_zero, List.set_cons_succ])
            refine wpSeqR_exec (o := ⟨_, _, _, _, _, _⟩) rfl rfl (fun K hK => ?_)
            go_simp
            refine hK _ _ (only_setCell (World.grownBy.refl _ _) (.inl rfl) _) ?_
            clear hK K
            iterate 1 (refine wpSeqR_take (o := ⟨_, _, _, _, _, _⟩) (v := ?_) rfl rfl ?_ ?_; rotate_left; (focus (intro W hW; go_simp; first | done | with_reducible rfl)); simp only [Act.put, List.setIfInBounds_toArray, List.set_cons_zero, List.set_cons_succ])
            refine wpSeqR_exec (o := ⟨_, _, _, _, _, _⟩) rfl rfl (fun K hK => ?_)
            go_simp
            refine hK _ _ (only_setCell (World.grownBy.refl _ _) (.inl rfl) _) ?_
            clear hK K
            refine wpSeqR_nil ?_
            clear q0 q1 q2 f0 f1 f2
            have hG := HGF.out
            clear HGF
            generalize (((w7.setCell ⟨ge, 1, none⟩ (.int .i64 a)).setCell ⟨ge, 2, none⟩ (.int .i64 b)).setCell ⟨ge, 3, none⟩ (.int .i64 n)) = w8 at *
            go_wp2_with fail
            refine wp_region_seqD (Onl ge) (Onl.refl ge) Onl.trans (by kernel_rfl) [(0, true), (1, true), (2, true), (3, true), (4, true), (5, true), (6, true), (7, true), (8, true), (9, true), (10, false), (11, true), (12, false), (13, true), (14, false)] (by kernel_rfl) rfl (by kernel_rfl) ?_
            have hG7 := hG.drew
            clear hG
            generalize w8.drew = w7 at *
            have hne : some gt ≠ some ge := by have := hG7.g2; have := hG7.g3; simp; omega
            have c0 : ∀ W, Onl ge w7 W → W.cell? ⟨gt, 0, none⟩ = some (.string ⟨s.toArray⟩) := fun W hW => by have := (hG7.ts.grown hW hne).cell 0; simpa [i3, s3] using this
            have c1 : ∀ W, Onl ge w7 W → W.cell? ⟨gt, 1, none⟩ = some (.string ⟨t.toArray⟩) := fun W hW => by have := (hG7.ts.grown hW hne).cell 1; simpa [i3, s3] using this
            have c2 : ∀ W, Onl ge w7 W → W.cell? ⟨gt, 2, none⟩ = some (.string ⟨u.toArray⟩) := fun W hW => by have := (hG7.ts.grown hW hne).cell 2; simpa [i3, s3] using this
            have q0 := hG7.ev.cell 4
            have f0 := hG7.ev.frozen 4
            have q1 := hG7.ev.cell 5
            have f1 := hG7.ev.frozen 5
            have q2 := hG7.ev.cell 6
            have f2 := hG7.ev.frozen 6
            simp only [evV] at q0 q1 q2
            simp at q0 q1 q2
            have HGF : Hid (GS2 w (((w7.setCell ⟨ge, 4, none⟩ (.string ⟨s.toArray⟩)).setCell ⟨ge, 5, none⟩ (.string ⟨t.toArray⟩)).setCell ⟨ge, 6, none⟩ (.string ⟨u.toArray⟩)) g ge gi gt sf k a b n s t u a b n s t u) := Lib.hid (GS2.storeE (GS2.storeE (GS2.storeE hG7 4 (.string ⟨s.toArray⟩) (k2 := k) (a2 := a) (b2 := b) (n2 := n) (x2 := s) (y2 := []) (z2 := []) rfl) 5 (.string ⟨t.toArray⟩) (k2 := k) (a2 := a) (b2 := b) (n2 := n) (x2 := s) (y2 := t) (z2 := []) rfl) 6 (.string ⟨u.toArray⟩) (k2 := k) (a2 := a) (b2 := b) (n2 := n) (x2 := s) (y2 := t) (z2 := u) rfl)
            clear hG7 hne
            iterate 10 (refine wpSeqR_take (o := ⟨_, _, _, _, _, _⟩) (v := ?_) rfl rfl ?_ ?_; rotate_left; (focus (intro W hW; go_simp; first | done | with_reducible rfl)); simp only [Act.put, List.setIfInBounds_toArray, List.set_cons_zero, List.set_cons_succ])
            refine wpSeqR_exec (o := ⟨_, _, _, _, _, _⟩) rfl rfl (fun K hK => ?_)
            go_simp
            refine hK _ _ (only_setCell (World.grownBy.refl _ _) (.inl rfl) _) ?_
            clear hK K
            clear c0 c1 c2
            iterate 1 (refine wpSeqR_take (o := ⟨_, _, _, _, _, _⟩) (v := ?_) rfl rfl ?_ ?_; rotate_left; (focus (intro W hW; go_simp; first | done | with_reducible rfl)); simp only [Act.put, List.setIfInBounds_toArray, List.set_cons_zero, List.set_cons_succ])
            refine wpSeqR_exec (o := ⟨_, _, _, _, _, _⟩) rfl rfl (fun K hK => ?_)
            go_simp
            refine hK _ _ (only_setCell (World.grownBy.refl _ _) (.inl rfl) _) ?_
            clear hK K
            iterate 1 (refine wpSeqR_take (o := ⟨_, _, _, _, _, _⟩) (v := ?_) rfl rfl ?_ ?_; rotate_left; (focus (intro W hW; go_simp; first | done | with_reducible rfl)); simp only [Act.put, List.setIfInBounds_toArray, List.set_cons_zero, List.set_cons_succ])
            refine wpSeqR_exec (o := ⟨_, _, _, _, _, _⟩) rfl rfl (fun K hK => ?_)
            go_simp
            refine hK _ _ (only_setCell (World.grownBy.refl _ _) (.inl rfl) _) ?_
            clear hK K
            refine wpSeqR_nil ?_
            clear q0 q1 q2 f0 f1 f2
            have hG := HGF.out
            clear HGF
            generalize (((w7.setCell ⟨ge, 4, none⟩ (.string ⟨s.toArray⟩)).setCell ⟨ge, 5, none⟩ (.string ⟨t.toArray⟩)).setCell ⟨ge, 6, none⟩ (.string ⟨u.toArray⟩)) = w9 at *
            have hsz := hG.bel.size
            have hrl := hG.rd.lt
            obtain ⟨rA, rn, rc, hblk, hBs, hrnc, hrn⟩ := hG.rd
            have hbsl := hBs.len
            have r0 := hblk.cell 0
            have r1 := hblk.cell 1
            simp at r0 r1
            have ec0 := hG.ev.cell 0
            have ec1 := hG.ev.cell 1
            have ec2 := hG.ev.cell 2
            have ec3 := hG.ev.cell 3
            have ec4 := hG.ev.cell 4
            have ec5 := hG.ev.cell 5
            have ec6 := hG.ev.cell 6
            simp only [evV] at ec0 ec1 ec2 ec3 ec4 ec5 ec6
            simp at ec0 ec1 ec2 ec3 ec4 ec5 ec6
            have qc0 := hG.res.cell 0
            have qc1 := hG.res.cell 1
            have qc2 := hG.res.cell 2
            have qc3 := hG.res.cell 3
            have qc4 := hG.res.cell 4
            have qc5 := hG.res.cell 5
            have qc6 := hG.res.cell 6
            simp only [evV] at qc0 qc1 qc2 qc3 qc4 qc5 qc6
            simp at qc0 qc1 qc2 qc3 qc4 qc5 qc6
            have hfz := hG.res.frozen
            clear hblk hBs
            have HG := Lib.hid hG
            clear hG
            obtain ⟨fl, fb⟩ := sf
            simp only at HY r1 hbsl
            cases fb with
            | true =>
              have HR := Lib.hid (HY.out.trans (if_neg (fun h => by cases h.1)))
              clear HY HCK
              go_wp2_with fail
              have HZ := set7 HG.out.res rfl (.int .i64 0) (.int .i64 0) (.int .i64 0) (.int .i64 0) (.string ⟨#[]⟩) (.string ⟨#[]⟩) (.string ⟨#[]⟩)
              have z0 := HZ.cell 0
              have z1 := HZ.cell 1
              have z2 := HZ.cell 2
              have z3 := HZ.cell 3
              have z4 := HZ.cell 4
              have z5 := HZ.cell 5
              have z6 := HZ.cell 6
              simp at z0 z1 z2 z3 z4 z5 z6
              exact bodyPost_ret (v := getRV none) (by simp [results, Tryz.results63, go_sem, getRV, evV, z0, z1, z2, z3, z4, z5, z6]) rfl ⟨by rw [HR.out], bel7 HG.out.bel (Nat.le_refl _) _ _ _ _ _ _ _⟩
            | false =>
              by_cases hfl : 0 < rn
              · have HR := Lib.hid (HY.out.trans (if_neg (fun h => by rw [h.2.1] at hbsl; simp at hbsl; omega)))
                clear HY HCK
                go_wp2_with fail
                have HZ := set7 HG.out.res rfl (.int .i64 0) (.int .i64 0) (.int .i64 0) (.int .i64 0) (.string ⟨#[]⟩) (.string ⟨#[]⟩) (.string ⟨#[]⟩)
                have z0 := HZ.cell 0
                have z1 := HZ.cell 1
                have z2 := HZ.cell 2
                have z3 := HZ.cell 3
                have z4 := HZ.cell 4
                have z5 := HZ.cell 5
                have z6 := HZ.cell 6
                simp at z0 z1 z2 z3 z4 z5 z6
                exact bodyPost_ret (v := getRV none) (by simp [results, Tryz.results63, go_sem, getRV, evV, z0, z1, z2, z3, z4, z5, z6]) rfl ⟨by rw [HR.out], bel7 HG.out.bel (Nat.le_refl _) _ _ _ _ _ _ _⟩
              · have hfn : fl = [] := List.eq_nil_of_length_eq_zero (by omega)
                have hrn0 : rn = 0 := by omega
                subst hfn
                subst hrn0
                clear hfl hbsl
                cases hok : evOK k a b n s t u with
                | false =>
                  have HR := Lib.hid (HY.out.trans (if_neg (fun h => by have h3 := h.2.2; unfold Ev.ok at h3; rw [hok] at h3; cases h3)))
                  rw [hok] at HCK
                  simp only [evV] at HCK
                  clear HY hok
                  go_wp2_with fail
                  (with_reducible refine (HCK.out _).mono ?_)
                  rintro e wA ⟨rfl, hbA⟩
                  have hresA := HG.out.res.below hbA HG.out.res.lt
                  have BA := bel_step HG.out.bel hbA
                  have hfzA := hresA.frozen
                  have qa0 := hresA.cell 0
                  have qa1 := hresA.cell 1
                  have qa2 := hresA.cell 2
                  have qa3 := hresA.cell 3
                  have qa4 := hresA.cell 4
                  have qa5 := hresA.cell 5
                  have qa6 := hresA.cell 6
                  simp only [evV] at qa0 qa1 qa2 qa3 qa4 qa5 qa6
                  simp at qa0 qa1 qa2 qa3 qa4 qa5 qa6
                  have HRES := Lib.hid hresA
                  clear hresA hbA
                  go_wp2_with fail
                  have HZ := set7 HRES.out rfl (.int .i64 0) (.int .i64 0) (.int .i64 0) (.int .i64 0) (.string ⟨#[]⟩) (.string ⟨#[]⟩) (.string ⟨#[]⟩)
                  have z0 := HZ.cell 0
                  have z1 := HZ.cell 1
                  have z2 := HZ.cell 2
                  have z3 := HZ.cell 3
                  have z4 := HZ.cell 4
                  have z5 := HZ.cell 5
                  have z6 := HZ.cell 6
                  simp at z0 z1 z2 z3 z4 z5 z6
                  exact bodyPost_ret (v := getRV none) (by simp [results, Tryz.results63, go_sem, getRV, evV, z0, z1, z2, z3, z4, z5, z6]) rfl ⟨by rw [HR.out], bel7 BA (Nat.le_refl _) _ _ _ _ _ _ _⟩
                | true =>
                  have HR := Lib.hid (HY.out.trans (if_pos ⟨rfl, rfl, hok⟩))
                  rw [hok] at HCK
                  simp only [evV] at HCK
                  clear HY hok
                  go_wp2_with fail
                  (with_reducible refine (HCK.out _).mono ?_)
                  rintro e wA ⟨rfl, hbA⟩
                  have hevA := HG.out.ev.below hbA HG.out.ev.lt
                  have hresA := HG.out.res.below hbA HG.out.res.lt
                  have BA := bel_step HG.out.bel hbA
                  have hfzA := hresA.frozen
                  have qa0 := hresA.cell 0
                  have qa1 := hresA.cell 1
                  have qa2 := hresA.cell 2
                  have qa3 := hresA.cell 3
                  have qa4 := hresA.cell 4
                  have qa5 := hresA.cell 5
                  have qa6 := hresA.cell 6
                  simp only [evV] at qa0 qa1 qa2 qa3 qa4 qa5 qa6
                  simp at qa0 qa1 qa2 qa3 qa4 qa5 qa6
                  have ea0 := hevA.cell 0
                  have ea1 := hevA.cell 1
                  have ea2 := hevA.cell 2
                  have ea3 := hevA.cell 3
                  have ea4 := hevA.cell 4
                  have ea5 := hevA.cell 5
                  have ea6 := hevA.cell 6
                  simp only [evV] at ea0 ea1 ea2 ea3 ea4 ea5 ea6
                  simp at ea0 ea1 ea2 ea3 ea4 ea5 ea6
                  have HRES := Lib.hid hresA
                  clear hresA hbA hevA
                  go_wp2_with fail
                  have HZ := set7 HRES.out rfl (.int .i64 k) (.int .i64 a) (.int .i64 b) (.int .i64 n) (.string ⟨s.toArray⟩) (.string ⟨t.toArray⟩) (.string ⟨u.toArray⟩)
                  have z0 := HZ.cell 0
                  have z1 := HZ.cell 1
                  have z2 := HZ.cell 2
                  have z3 := HZ.cell 3
                  have z4 := HZ.cell 4
                  have z5 := HZ.cell 5
                  have z6 := HZ.cell 6
                  simp at z0 z1 z2 z3 z4 z5 z6
                  exact bodyPost_ret (v := getRV (some ⟨k, a, b, n, s, t, u⟩)) (by simp [results, Tryz.results63, go_sem, getRV, evV, z0, z1, z2, z3, z4, z5, z6]) rfl ⟨by rw [HR.out], bel7 BA (Nat.le_refl _) _ _ _ _ _ _ _⟩
  · have HR := Lib.hid (HN.out h3)
    have d3 : ((b0 : Int) != 3) = true := by simp; omega
    have d3' : ((b0 : Int) == 3) = false := by simp; omega
    have qc0 := hres2.cell 0
    have qc1 := hres2.cell 1
    have qc2 := hres2.cell 2
    have qc3 := hres2.cell 3
    have qc4 := hres2.cell 4
    have qc5 := hres2.cell 5
    have qc6 := hres2.cell 6
    simp only [evV] at qc0 qc1 qc2 qc3 qc4 qc5 qc6
    simp at qc0 qc1 qc2 qc3 qc4 qc5 qc6
    have hfz := hres2.frozen
    have HRES := Lib.hid hres2
    clear h3 HN HY hres2
    go_wp2_with fail
    have HZ := set7 HRES.out rfl (.int .i64 0) (.int .i64 0) (.int .i64 0) (.int .i64 0) (.string ⟨#[]⟩) (.string ⟨#[]⟩) (.string ⟨#[]⟩)
    have z0 := HZ.cell 0
    have z1 := HZ.cell 1
    have z2 := HZ.cell 2
    have z3 := HZ.cell 3
    have z4 := HZ.cell 4
    have z5 := HZ.cell 5
    have z6 := HZ.cell 6
    simp at z0 z1 z2 z3 z4 z5 z6
    exact bodyPost_ret (v := getRV none) (by simp [results, Tryz.results63, go_sem, getRV, evV, z0, z1, z2, z3, z4, z5, z6]) rfl ⟨by rw [HR.out], bel7 B2 (Nat.le_refl _) _ _ _ _ _ _ _⟩
end Go.Proofs.YtfepinnfhcjopaaGreatDoor
end
section
namespace Go.Proofs.YtfepinnfhcjopaaGreatDoor
open Go.RowKit Go.Nst
set_option maxRecDepth 100000
set_option linter.unusedVariables false
set_option linter.unusedSimpArgs false

theorem selN_len (m i : Nat) (x : Int) : (selN m i x).length ≤ 11 := by
  unfold selN
  split
  · exact (putL_len _).2
  · simp
theorem selT_len (m i : Nat) (x : List UInt8) : (selT m i x).length ≤ x.length + 11 := by
  unfold selT
  split
  · exact textL_len x
  · simp
theorem codeL_len {e : Ev} (h : e.ok = true) : (codeL e).length ≤ 3000 := by
  have f := evF h
  have h1 := f.s
  have h2 := f.t
  have h3 := f.u
  unfold codeL codeT numsL textsL
  simp only [List.length_append, List.length_cons, List.length_nil]
  have a1 := selN_len (usesN e.k) 0 e.a
  have a2 := selN_len (usesN e.k) 1 e.b
  have a3 := selN_len (usesN e.k) 2 e.n
  have b1 := selT_len (usesT e.k) 0 e.s
  have b2 := selT_len (usesT e.k) 1 e.t
  have b3 := selT_len (usesT e.k) 2 e.u
  omega
theorem largeB_no {s t u : List UInt8} (h : largeB s t u = false) : s.length ≤ 1000 ∧ t.length ≤ 1000 ∧ u.length ≤ 1000 := by
  unfold largeB at h
  simp at h
  omega

end Go.Proofs.YtfepinnfhcjopaaGreatDoor
end
section
namespace Go.Proofs.YtfepinnfhcjopaaGreatDoor
open Go.RowKit Go.Nst
set_option maxRecDepth 100000
set_option linter.unusedVariables false
set_option linter.unusedSimpArgs false


theorem ev_agg (e : Ev) : evV e.k e.a e.b e.n e.s e.t e.u = #[.int .i64 e.k, .int .i64 e.a, .int .i64 e.b, .int .i64 e.n, .string ⟨e.s.toArray⟩, .string ⟨e.t.toArray⟩, .string ⟨e.u.toArray⟩] := rfl
end Go.Proofs.YtfepinnfhcjopaaGreatDoor
end
