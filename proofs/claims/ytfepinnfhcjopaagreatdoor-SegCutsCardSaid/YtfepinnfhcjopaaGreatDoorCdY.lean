/-
  code.Get: the event of bytes.
  The reference's Put: an event's bytes.
  code.Size, the reference's Large; the run with which each statement on events' bytes begins.
-/
import Derived.Test.YtfepinnfhcjopaaGreatDoorCdX
section
namespace Go.Proofs.YtfepinnfhcjopaaGreatDoor
open Go.RowKit Go.Nst
set_option maxRecDepth 100000
set_option linter.unusedVariables false
set_option linter.unusedSimpArgs false

/-! ### the state while an event is read -/
theorem bs_far {w : World} {g : Nat} {T : TypeId} {cs : Array Value} (k : Blk w g T cs) (hne : ∀ (i : Nat) (u : UInt8), cs[i]? ≠ some (Value.int .u8 (u.toNat : Int))) {A' : Option Addr} {n' : Nat} {l : List UInt8} (hB : Bs w A' n' l) : ∀ ad, A' = some ad → 0 < n' → some ad.block ≠ some g := by
  intro ad e hn e2
  obtain ⟨u, b', off, e3, _, _, hc, _⟩ := hB.at hn
  rw [e] at e3
  injection e3 with e3
  subst e3
  injection e2 with e2
  simp only at e2
  subst e2
  rw [k.cell] at hc
  exact hne _ _ hc
theorem RdT.store {T T' : TypeId} {w : World} {g ge : Nat} {s : RS} {cs : Array Value} (h : RdT T w g s) (k : Blk w ge T' cs) (hne : g ≠ ge) (hu : ∀ (i : Nat) (u : UInt8), cs[i]? ≠ some (Value.int .u8 (u.toNat : Int))) (i : Nat) (v : Value) : RdT T (w.setCell ⟨ge, i, none⟩ v) g s := by
  obtain ⟨A, n, c, h1, h2, h3, h4⟩ := h
  exact ⟨A, n, c, h1.far hne _, h2.only (only_setCell (World.grownBy.refl w _) (.inl rfl) _) (bs_far k hu h2), h3, h4⟩
theorem evV_u8 (k a b n : Int) (s t u : List UInt8) : ∀ (i : Nat) (x : UInt8), (evV k a b n s t u)[i]? ≠ some (Value.int .u8 (x.toNat : Int)) := by
  intro i x h
  by_cases hi : i < 7
  · rcases (by omega : i = 0 ∨ i = 1 ∨ i = 2 ∨ i = 3 ∨ i = 4 ∨ i = 5 ∨ i = 6) with rfl | rfl | rfl | rfl | rfl | rfl | rfl <;> simp [evV] at h
  · rw [Array.getElem?_eq_none (by simp [evV]; omega)] at h; cases h
/-- the reader g holds s, the event ge the cells cs, the result's block is empty -/
structure GS (T : TypeId) (w wr : World) (g ge gs : Nat) (s : RS) (cs ss : Array Value) : Prop where
  rd : RdT T wr g s
  ev : Blk wr ge 50 cs
  res : Blk wr w.heap.size 50 (evV 0 0 0 0 [] [] [])
  wd : Blk wr gs 111 ss
  bel : Below w.heap.size w wr
  g0 : w.heap.size < g
  g1 : g < ge
  g2 : ge < gs
theorem GS.read {T : TypeId} {w wr w3 : World} {g ge gs : Nat} {s s' : RS} {cs ss : Array Value} (h : GS T w wr g ge gs s cs ss) (hr : RdT T w3 g s') (hg : wr.grownBy w3 (some g)) : GS T w w3 g ge gs s' cs ss := by
  have h0 := h.g0
  have h1 := h.g1
  have h2 := h.g2
  exact ⟨hr, h.ev.grown hg (by simp; omega), h.res.grown hg (by simp; omega), h.wd.grown hg (by simp; omega), below_only h.bel hg (by omega) h.bel.size, h0, h1, h2⟩
theorem GS.store {T : TypeId} {w wr : World} {g ge gs : Nat} {s : RS} {k a b n : Int} {x y z : List UInt8} {ss cs' : Array Value} (h : GS T w wr g ge gs s (evV k a b n x y z) ss) (i : Nat) (v : Value) (hc : (evV k a b n x y z).setIfInBounds i v = cs') : GS T w (wr.setCell ⟨ge, i, none⟩ v) g ge gs s cs' ss := by
  have h0 := h.g0
  have h1 := h.g1
  have h2 := h.g2
  subst hc
  exact ⟨RdT.store h.rd h.ev (by omega) (evV_u8 _ _ _ _ _ _ _) i v, h.ev.set_ i v, h.res.far (by simp; omega) v, h.wd.far (by simp; omega) v, h.bel.setCell (p := ⟨ge, i, none⟩) (by simp; omega) v, h0, h1, h2⟩
def evN (m : Nat) (s : RS) (k : Int) (z : Nat) : Array Value := evV k (if 0 < z then vaN m s 0 else 0) (if 1 < z then vaN m s 1 else 0) (if 2 < z then vaN m s 2 else 0) [] [] []
def evT (q : Nat) (s : RS) (k a b n : Int) (z : Nat) : Array Value := evV k a b n (if 0 < z then vaT q s 0 else []) (if 1 < z then vaT q s 1 else []) (if 2 < z then vaT q s 2 else [])
theorem stN_0 (m : Nat) (s : RS) : stN m s 1 = (rdN m 0 (stN m s 0)).2 := rfl
theorem stT_0 (m : Nat) (s : RS) : stT m s 1 = (rdT m 0 (stT m s 0)).2 := rfl
theorem stN_1 (m : Nat) (s : RS) : stN m s 2 = (rdN m 1 (stN m s 1)).2 := rfl
theorem stT_1 (m : Nat) (s : RS) : stT m s 2 = (rdT m 1 (stT m s 1)).2 := rfl
theorem stN_2 (m : Nat) (s : RS) : stN m s 3 = (rdN m 2 (stN m s 2)).2 := rfl
theorem stT_2 (m : Nat) (s : RS) : stT m s 3 = (rdT m 2 (stT m s 2)).2 := rfl
theorem rdN_yes {m i : Nat} (h : bitB m i = true) (s : RS) : rdN m i s = s.num := by unfold rdN; rw [h]; rfl
theorem rdN_no {m i : Nat} (h : bitB m i = false) (s : RS) : rdN m i s = (0, s) := by unfold rdN; rw [h]; rfl
theorem rdT_yes {m i : Nat} (h : bitB m i = true) (s : RS) : rdT m i s = s.text := by unfold rdT; rw [h]; rfl
theorem rdT_no {m i : Nat} (h : bitB m i = false) (s : RS) : rdT m i s = ([], s) := by unfold rdT; rw [h]; rfl
theorem take_len (s : RS) (n : Int) : (s.take n).1.length ≤ s.l.length ∧ (s.take n).2.l.length ≤ s.l.length := by
  unfold RS.take
  split <;> simp [List.length_take]
  omega
theorem num_len (s : RS) : s.num.2.l.length ≤ s.l.length := by
  unfold RS.num
  split
  · exact Nat.le_refl _
  · split <;> simp
theorem text_len (s : RS) : s.text.1.length ≤ s.l.length ∧ s.text.2.l.length ≤ s.l.length := by
  unfold RS.text
  have h1 := num_len s
  have h2 := take_len s.num.2 (if 65536 < s.num.1 then -1 else s.num.1)
  omega
theorem byte_len (s : RS) : s.byte.2.l.length ≤ s.l.length := by unfold RS.byte; exact (take_len s 1).2
theorem stN_len (m : Nat) (s : RS) : ∀ i, (stN m s i).l.length ≤ s.l.length := by
  have key : ∀ i s, (rdN m i s).2.l.length ≤ s.l.length := by
    intro i s
    unfold rdN
    split
    · exact num_len s
    · exact Nat.le_refl _
  intro i
  match i with
  | 0 => exact Nat.le_refl _
  | 1 => exact key 0 s
  | 2 => exact Nat.le_trans (key 1 _) (key 0 s)
  | j + 3 => exact Nat.le_trans (key 2 _) (Nat.le_trans (key 1 _) (key 0 s))
theorem vaT_len (m : Nat) (s : RS) : ∀ i, (vaT m s i).length ≤ s.l.length := by
  have key : ∀ i s, (rdT m i s).1.length ≤ s.l.length ∧ (rdT m i s).2.l.length ≤ s.l.length := by
    intro i s
    unfold rdT
    split
    · exact text_len s
    · simp
  intro i
  unfold vaT
  refine Nat.le_trans (key i _).1 ?_
  match i with
  | 0 => exact Nat.le_refl _
  | 1 => exact (key 0 s).2
  | 2 => exact Nat.le_trans (key 1 _).2 (key 0 s).2
  | j + 3 => exact Nat.le_trans (key 2 _).2 (Nat.le_trans (key 1 _).2 (key 0 s).2)
theorem array7' {α : Type} {cs : Array α} (h : cs.size = 7) : ∃ c0 c1 c2 c3 c4 c5 c6, cs = #[c0, c1, c2, c3, c4, c5, c6] := by
  obtain ⟨l⟩ := cs
  match l, h with
  | [c0, c1, c2, c3, c4, c5, c6], _ => exact ⟨c0, c1, c2, c3, c4, c5, c6, rfl⟩
theorem set7 {w : World} {g : Nat} {T : TypeId} {cs : Array Value} (h : Blk w g T cs) (hs : cs.size = 7) (v0 v1 v2 v3 v4 v5 v6 : Value) : Blk (((((((w.setCell ⟨g, 0, none⟩ v0).setCell ⟨g, 1, none⟩ v1).setCell ⟨g, 2, none⟩ v2).setCell ⟨g, 3, none⟩ v3).setCell ⟨g, 4, none⟩ v4).setCell ⟨g, 5, none⟩ v5).setCell ⟨g, 6, none⟩ v6) g T #[v0, v1, v2, v3, v4, v5, v6] := by
  obtain ⟨c0, c1, c2, c3, c4, c5, c6, rfl⟩ := array7' hs
  have := ((((((h.set_ 0 v0).set_ 1 v1).set_ 2 v2).set_ 3 v3).set_ 4 v4).set_ 5 v5).set_ 6 v6
  simpa using this
theorem bel7 {w wr : World} (h : Below w.heap.size w wr) {g : Nat} (hg : w.heap.size ≤ g) (v0 v1 v2 v3 v4 v5 v6 : Value) : Below w.heap.size w (((((((wr.setCell ⟨g, 0, none⟩ v0).setCell ⟨g, 1, none⟩ v1).setCell ⟨g, 2, none⟩ v2).setCell ⟨g, 3, none⟩ v3).setCell ⟨g, 4, none⟩ v4).setCell ⟨g, 5, none⟩ v5).setCell ⟨g, 6, none⟩ v6) :=
  ((((((h.setCell (p := ⟨g, 0, none⟩) hg v0).setCell (p := ⟨g, 1, none⟩) hg v1).setCell (p := ⟨g, 2, none⟩) hg v2).setCell (p := ⟨g, 3, none⟩) hg v3).setCell (p := ⟨g, 4, none⟩) hg v4).setCell (p := ⟨g, 5, none⟩) hg v5).setCell (p := ⟨g, 6, none⟩) hg v6
def getV (r : Option Ev) : Value := match r with
  | some e => .tuple #[.agg (evV e.k e.a e.b e.n e.s e.t e.u), .int .i64 0]
  | none => .tuple #[.agg (evV 0 0 0 0 [] [] []), .int .i64 150]
theorem getE_no {l : List UInt8} (h : (RS.byte ⟨l, false⟩).1 ≠ 3) : getE l = none := by unfold getE; rw [if_neg h]
theorem getE_yes {l : List UInt8} (h : (RS.byte ⟨l, false⟩).1 = 3) : getE l = if (rdEv (RS.byte ⟨l, false⟩).2).2.bad = false ∧ (rdEv (RS.byte ⟨l, false⟩).2).2.l = [] ∧ (rdEv (RS.byte ⟨l, false⟩).2).1.ok = true then some (rdEv (RS.byte ⟨l, false⟩).2).1 else none := by unfold getE; rw [if_pos h]
set_option maxHeartbeats 8000000 in
theorem get15_any (A : Option Addr) (nn c : Nat) (l : List UInt8) (w : World) (hn : nn ≤ 20000) (hB : Bs w A nn l) : Calls Tryz.prog 70 #[.slice A nn c] w fun e w' => e = .returned (getV (getE l)) ∧ Below w.heap.size w w' := by
  have HF := Lib.hid (fun W (h : Bs W A nn l) => from_any A nn c l W (by omega) h)
  have hll : l.length ≤ 20000 := by rw [hB.len]; exact hn
  have hbl := byte_len ⟨l, false⟩
  simp only at hbl
  obtain ⟨r, hr⟩ : ∃ r, getE l = r := ⟨_, rfl⟩
  rw [hr]
  have HN := Lib.hid (fun h => hr.symm.trans (getE_no (l := l) h))
  have HY := Lib.hid (fun h => hr.symm.trans (getE_yes (l := l) h))
  clear hr
  have HBY : Hid (RS.byte ⟨l, false⟩ = RS.byte ⟨l, false⟩) := rfl
  obtain ⟨p, hp⟩ : ∃ p, RS.byte ⟨l, false⟩ = p := ⟨_, rfl⟩
  have HP := Lib.hid hp
  rw [hp] at HN HY hbl
  clear hp HBY
  obtain ⟨b0, s0⟩ := p
  simp only at HN HY hbl
  go_enter Tryz.func70, Tryz.ntmps70
  go_wp2_with fail
  (with_reducible refine (HF.out _ (hB.alloc _)).mono ?_)
  rintro e w1 ⟨g, rfl, hR, hg, hb1⟩
  simp at hg
  have hres1 : Blk w1 w.heap.size 50 (evV 0 0 0 0 [] [] []) := (Blk.new w _ _).below hb1 (by simp)
  have B1 := bel_step (bel_alloc (Below.refl w.heap.size w) _) hb1
  clear hb1
  have hg1 := hR.lt
  go_wp2_with fail
  (with_reducible refine (readByte_any g _ w1 hR).mono ?_)
  rw [HP.out]
  rintro e w2 ⟨rfl, hR2, hg2⟩
  have hres2 := hres1.grown hg2 (by simp; omega)
  have B2 := below_only B1 hg2 (by omega) B1.size
  have hz2 : w1.heap.size ≤ w2.heap.size := hg2.size
  clear hg2 hR hres1
  by_cases h3 : b0 = 3
  · have HY := Lib.hid (HY.out h3)
    have d3 : ((b0 : Int) != 3) = false := by simp; omega
    have d3' : ((b0 : Int) == 3) = true := by simp; omega
    clear h3 HN
    have hbl2 := byte_len s0
    obtain ⟨p2, hp2⟩ : ∃ p, RS.byte s0 = p := ⟨_, rfl⟩
    have HP2 := Lib.hid hp2
    unfold rdEv at HY
    rw [hp2] at HY hbl2
    clear hp2
    obtain ⟨kN, s1⟩ := p2
    simp only at HY hbl2
    have HU := Lib.hid (fun W => uses_any (kN : Int) W)
    have hm8 := usesN_lt (kN : Int)
    have hq8 := usesT_lt (kN : Int)
    generalize usesN (kN : Int) = m at *
    generalize usesT (kN : Int) = q at *
    have hsl := stN_len m s1 3
    go_wp2_with fail
    (with_reducible refine (readByte_any g _ w2 hR2).mono ?_)
    rw [HP2.out]
    rintro e w3 ⟨rfl, hR3, hg3⟩
    have hres3 := hres2.grown hg3 (by simp; omega)
    have B3 := below_only B2 hg3 (by omega) B2.size
    have hz3 : w2.heap.size ≤ w3.heap.size := hg3.size
    clear hg3 hR2 hres2
    go_wp2_with fail
    (with_reducible refine (HU.out _).mono ?_)
    rintro e w4 ⟨rfl, rfl⟩
    go_wp2_with fail
    (with_reducible refine (fields_any _ _).mono ?_)
    rintro e w5 ⟨rfl, hb5⟩
    have hw5 : w3.heap.size < w5.heap.size := by have := hb5.size; simp at this; omega
    have HG : Hid (GS 95 w ((w5.alloc (.cells #[.pointer (some ⟨w3.heap.size, 1, none⟩), .pointer (some ⟨w3.heap.size, 2, none⟩), .pointer (some ⟨w3.heap.size, 3, none⟩)] 109)).alloc (.cells #[.pointer (some ⟨w3.heap.size, 4, none⟩), .pointer (some ⟨w3.heap.size, 5, none⟩), .pointer (some ⟨w3.heap.size, 6, none⟩)] 111)) g w3.heap.size (w5.heap.size + 1) (stN m s1 0) (evN m s1 (kN : Int) 0) #[.pointer (some ⟨w3.heap.size, 4, none⟩), .pointer (some ⟨w3.heap.size, 5, none⟩), .pointer (some ⟨w3.heap.size, 6, none⟩)]) := by
      have hbb := bel_step (bel_alloc (Below.refl w3.heap.size w3) (.cells #[.int .i64 (kN : Int), .int .i64 0, .int .i64 0, .int .i64 0, .string ⟨#[]⟩, .string ⟨#[]⟩, .string ⟨#[]⟩] 50)) (bel_alloc (bel_alloc hb5 (.cells #[.pointer (some ⟨w3.heap.size, 1, none⟩), .pointer (some ⟨w3.heap.size, 2, none⟩), .pointer (some ⟨w3.heap.size, 3, none⟩)] 109)) (.cells #[.pointer (some ⟨w3.heap.size, 4, none⟩), .pointer (some ⟨w3.heap.size, 5, none⟩), .pointer (some ⟨w3.heap.size, 6, none⟩)] 111))
      refine ⟨hR3.below hbb, ?_, hres3.below hbb (by omega), ?_, bel_step B3 hbb, by omega, by have := hR3.lt; omega, by omega⟩
      · exact ((Blk.new w3 _ _).below (bel_alloc (bel_alloc hb5 _) _) (by simp))
      · have := Blk.new (w5.alloc (.cells #[.pointer (some ⟨w3.heap.size, 1, none⟩), .pointer (some ⟨w3.heap.size, 2, none⟩), .pointer (some ⟨w3.heap.size, 3, none⟩)] 109)) 111 #[.pointer (some ⟨w3.heap.size, 4, none⟩), .pointer (some ⟨w3.heap.size, 5, none⟩), .pointer (some ⟨w3.heap.size, 6, none⟩)]
        simpa using this
    clear hb5 hres3 hR3 B3
    go_wp2_with fail
    generalize hge : w3.heap.size = ge at *
    generalize hgs : w5.heap.size + 1 = gs at *
    clear hge hgs hw5
    have HSL := Lib.hid hsl
    go_loopw [34] (fun i wr => ∃ (z : Int), 0 ≤ z ∧ z ≤ 3 ∧ i = .int .i64 z ∧ GS 95 w wr g ge gs (stN m s1 z.toNat) (evN m s1 (kN : Int) z.toNat) #[.pointer (some ⟨ge, 4, none⟩), .pointer (some ⟨ge, 5, none⟩), .pointer (some ⟨ge, 6, none⟩)]) (fun i _ => (3 - intOf i).toNat)
    case atStart => exact ⟨0, by omega, by omega, rfl, HG.out⟩
    case round =>
      clear HG
      obtain ⟨z, hz0, hz3, rfl, hG⟩ := hrel
      generalize hk : (kN : Int) = k at *
      have HKK := Lib.hid hk
      clear hk
      rcases (by omega : z = 0 ∨ z = 1 ∨ z = 2 ∨ z = 3) with rfl | rfl | rfl | rfl
      · have i0 := arrI_0
        have hG : GS 95 w wr g ge gs (stN m s1 0) (evV k 0 0 0 [] [] []) #[.pointer (some ⟨ge, 4, none⟩), .pointer (some ⟨ge, 5, none⟩), .pointer (some ⟨ge, 6, none⟩)] := hG
        cases hbt : bitB m 0 with
        | true =>
          have e1 : (bits .and .i64 (m : Int) 1 == 1) = true := (bitT_0 hm8).trans hbt
          have HS : Hid ((stN m s1 0).num = (vaN m s1 0, stN m s1 1)) := Lib.hid (by rw [stN_0]; unfold vaN; rw [rdN_yes hbt])
          have HR := Lib.hid (readNum_any g (stN m s1 0) wr hG.rd)
          rw [HS.out] at HR
          clear hbt HS
          have HGS := Lib.hid (fun W (h1 : RdT 95 W g (stN m s1 1)) (h2 : wr.grownBy W (some g)) => (GS.store (GS.read (w3 := W) hG h1 h2) 1 (.int .i64 (vaN m s1 0)) (cs' := evV k (vaN m s1 0) 0 0 [] [] []) rfl))
          have HEV := Lib.hid (fun W (h1 : RdT 95 W g (stN m s1 1)) (h2 : wr.grownBy W (some g)) => (GS.read (w3 := W) hG h1 h2).ev)
          go_wp2_with fail
          (with_reducible refine (HR.out).mono ?_)
          rintro e w3 ⟨rfl, hR3, hg3⟩
          have hev := HEV.out w3 hR3 hg3
          have q1 := hev.cell 1
          have q2 := hev.frozen 1
          simp only [evV] at q1
          simp at q1
          go_wp2_with fail
          go_roundw
          case rel => exact ⟨1, by omega, by omega, rfl, HGS.out w3 hR3 hg3⟩
          case measure => simp [intOf]
        | false =>
          have e1 : (bits .and .i64 (m : Int) 1 == 1) = false := (bitT_0 hm8).trans hbt
          have h1 : stN m s1 1 = (stN m s1 0) := by rw [stN_0, rdN_no hbt]
          have h2 : vaN m s1 0 = 0 := by unfold vaN; rw [rdN_no hbt]
          have hG2 : GS 95 w wr g ge gs (stN m s1 1) (evV k (vaN m s1 0) 0 0 [] [] []) #[.pointer (some ⟨ge, 4, none⟩), .pointer (some ⟨ge, 5, none⟩), .pointer (some ⟨ge, 6, none⟩)] := by rw [h1, h2]; exact hG
          have HG := Lib.hid hG2
          clear hbt h1 h2 hG hG2
          go_wp2_with fail
          go_roundw
          case rel => exact ⟨1, by omega, by omega, rfl, HG.out⟩
          case measure => simp [intOf]
      · have i0 := arrI_1
        have hG : GS 95 w wr g ge gs (stN m s1 1) (evV k (vaN m s1 0) 0 0 [] [] []) #[.pointer (some ⟨ge, 4, none⟩), .pointer (some ⟨ge, 5, none⟩), .pointer (some ⟨ge, 6, none⟩)] := hG
        cases hbt : bitB m 1 with
        | true =>
          have e1 : (bits .and .i64 ((m : Int) / 2) 1 == 1) = true := (bitT_1 hm8).trans hbt
          have HS : Hid ((stN m s1 1).num = (vaN m s1 1, stN m s1 2)) := Lib.hid (by rw [stN_1]; unfold vaN; rw [rdN_yes hbt])
          have HR := Lib.hid (readNum_any g (stN m s1 1) wr hG.rd)
          rw [HS.out] at HR
          clear hbt HS
          have HGS := Lib.hid (fun W (h1 : RdT 95 W g (stN m s1 2)) (h2 : wr.grownBy W (some g)) => (GS.store (GS.read (w3 := W) hG h1 h2) 2 (.int .i64 (vaN m s1 1)) (cs' := evV k (vaN m s1 0) (vaN m s1 1) 0 [] [] []) rfl))
          have HEV := Lib.hid (fun W (h1 : RdT 95 W g (stN m s1 2)) (h2 : wr.grownBy W (some g)) => (GS.read (w3 := W) hG h1 h2).ev)
          go_wp2_with fail
          (with_reducible refine (HR.out).mono ?_)
          rintro e w3 ⟨rfl, hR3, hg3⟩
          have hev := HEV.out w3 hR3 hg3
          have q1 := hev.cell 2
          have q2 := hev.frozen 2
          simp only [evV] at q1
          simp at q1
          go_wp2_with fail
          go_roundw
          case rel => exact ⟨2, by omega, by omega, rfl, HGS.out w3 hR3 hg3⟩
          case measure => simp [intOf]
        | false =>
          have e1 : (bits .and .i64 ((m : Int) / 2) 1 == 1) = false := (bitT_1 hm8).trans hbt
          have h1 : stN m s1 2 = (stN m s1 1) := by rw [stN_1, rdN_no hbt]
          have h2 : vaN m s1 1 = 0 := by unfold vaN; rw [rdN_no hbt]
          have hG2 : GS 95 w wr g ge gs (stN m s1 2) (evV k (vaN m s1 0) (vaN m s1 1) 0 [] [] []) #[.pointer (some ⟨ge, 4, none⟩), .pointer (some ⟨ge, 5, none⟩), .pointer (some ⟨ge, 6, none⟩)] := by rw [h1, h2]; exact hG
          have HG := Lib.hid hG2
          clear hbt h1 h2 hG hG2
          go_wp2_with fail
          go_roundw
          case rel => exact ⟨2, by omega, by omega, rfl, HG.out⟩
          case measure => simp [intOf]
      · have i0 := arrI_2
        have hG : GS 95 w wr g ge gs (stN m s1 2) (evV k (vaN m s1 0) (vaN m s1 1) 0 [] [] []) #[.pointer (some ⟨ge, 4, none⟩), .pointer (some ⟨ge, 5, none⟩), .pointer (some ⟨ge, 6, none⟩)] := hG
        cases hbt : bitB m 2 with
        | true =>
          have e1 : (bits .and .i64 ((m : Int) / 4) 1 == 1) = true := (bitT_2 hm8).trans hbt
          have HS : Hid ((stN m s1 2).num = (vaN m s1 2, stN m s1 3)) := Lib.hid (by rw [stN_2]; unfold vaN; rw [rdN_yes hbt])
          have HR := Lib.hid (readNum_any g (stN m s1 2) wr hG.rd)
          rw [HS.out] at HR
          clear hbt HS
          have HGS := Lib.hid (fun W (h1 : RdT 95 W g (stN m s1 3)) (h2 : wr.grownBy W (some g)) => (GS.store (GS.read (w3 := W) hG h1 h2) 3 (.int .i64 (vaN m s1 2)) (cs' := evV k (vaN m s1 0) (vaN m s1 1) (vaN m s1 2) [] [] []) rfl))
          have HEV := Lib.hid (fun W (h1 : RdT 95 W g (stN m s1 3)) (h2 : wr.grownBy W (some g)) => (GS.read (w3 := W) hG h1 h2).ev)
          go_wp2_with fail
          (with_reducible refine (HR.out).mono ?_)
          rintro e w3 ⟨rfl, hR3, hg3⟩
          have hev := HEV.out w3 hR3 hg3
          have q1 := hev.cell 3
          have q2 := hev.frozen 3
          simp only [evV] at q1
          simp at q1
          go_wp2_with fail
          go_roundw
          case rel => exact ⟨3, by omega, by omega, rfl, HGS.out w3 hR3 hg3⟩
          case measure => simp [intOf]
        | false =>
          have e1 : (bits .and .i64 ((m : Int) / 4) 1 == 1) = false := (bitT_2 hm8).trans hbt
          have h1 : stN m s1 3 = (stN m s1 2) := by rw [stN_2, rdN_no hbt]
          have h2 : vaN m s1 2 = 0 := by unfold vaN; rw [rdN_no hbt]
          have hG2 : GS 95 w wr g ge gs (stN m s1 3) (evV k (vaN m s1 0) (vaN m s1 1) (vaN m s1 2) [] [] []) #[.pointer (some ⟨ge, 4, none⟩), .pointer (some ⟨ge, 5, none⟩), .pointer (some ⟨ge, 6, none⟩)] := by rw [h1, h2]; exact hG
          have HG := Lib.hid hG2
          clear hbt h1 h2 hG hG2
          go_wp2_with fail
          go_roundw
          case rel => exact ⟨3, by omega, by omega, rfl, HG.out⟩
          case measure => simp [intOf]
      · have hG : GS 95 w wr g ge gs (stN m s1 3) (evV k (vaN m s1 0) (vaN m s1 1) (vaN m s1 2) [] [] []) #[.pointer (some ⟨ge, 4, none⟩), .pointer (some ⟨ge, 5, none⟩), .pointer (some ⟨ge, 6, none⟩)] := hG
        generalize vaN m s1 0 = a at *
        generalize vaN m s1 1 = b at *
        generalize vaN m s1 2 = n at *
        generalize stN m s1 3 = s2 at *
        have e0 := hG.wd.cell 0
        have e1 := hG.wd.cell 1
        have e2 := hG.wd.cell 2
        simp at e0 e1 e2
        have HG := Lib.hid hG
        obtain ⟨wo, rfl⟩ : ∃ wo : World, wo = wr := ⟨_, rfl⟩
        go_wp2_with fail
        clear hG e0 e1 e2
        go_loopw [49] (fun i wr => ∃ (z : Int), 0 ≤ z ∧ z ≤ 3 ∧ i = .int .i64 z ∧ GS 95 w wr g ge gs (stT q s2 z.toNat) (evT q s2 k a b n z.toNat) #[.pointer (some ⟨ge, 4, none⟩), .pointer (some ⟨ge, 5, none⟩), .pointer (some ⟨ge, 6, none⟩)]) (fun i _ => (3 - intOf i).toNat)
        case atStart => exact ⟨0, by omega, by omega, rfl, HG.out⟩
        case round =>
          clear HG
          obtain ⟨z, hz0, hz3, rfl, hG⟩ := hrel
          rcases (by omega : z = 0 ∨ z = 1 ∨ z = 2 ∨ z = 3) with rfl | rfl | rfl | rfl
          · have i0 := arrS_0
            have hG : GS 95 w wr g ge gs (stT q s2 0) (evV k a b n [] [] []) #[.pointer (some ⟨ge, 4, none⟩), .pointer (some ⟨ge, 5, none⟩), .pointer (some ⟨ge, 6, none⟩)] := hG
            cases hbt : bitB q 0 with
            | true =>
              have e1 : (bits .and .i64 (q : Int) 1 == 1) = true := (bitT_0 hq8).trans hbt
              have HS : Hid ((stT q s2 0).text = (vaT q s2 0, stT q s2 1)) := Lib.hid (by rw [stT_0]; unfold vaT; rw [rdT_yes hbt])
              have HR := Lib.hid (readText_any g (stT q s2 0) wr hG.rd)
              rw [HS.out] at HR
              clear hbt HS
              have HGS := Lib.hid (fun W (h1 : RdT 95 W g (stT q s2 1)) (h2 : wr.grownBy W (some g)) => (GS.store (GS.read (w3 := W) hG h1 h2) 4 (.string ⟨(vaT q s2 0).toArray⟩) (cs' := evV k a b n (vaT q s2 0) [] []) rfl))
              have HEV := Lib.hid (fun W (h1 : RdT 95 W g (stT q s2 1)) (h2 : wr.grownBy W (some g)) => (GS.read (w3 := W) hG h1 h2).ev)
              go_wp2_with fail
              (with_reducible refine (HR.out).mono ?_)
              rintro e w3 ⟨rfl, hR3, hg3⟩
              have hev := HEV.out w3 hR3 hg3
              have q1 := hev.cell 4
              have q2 := hev.frozen 4
              simp only [evV] at q1
              simp at q1
              go_wp2_with fail
              go_roundw
              case rel => exact ⟨1, by omega, by omega, rfl, HGS.out w3 hR3 hg3⟩
              case measure => simp [intOf]
            | false =>
              have e1 : (bits .and .i64 (q : Int) 1 == 1) = false := (bitT_0 hq8).trans hbt
              have h1 : stT q s2 1 = (stT q s2 0) := by rw [stT_0, rdT_no hbt]
              have h2 : vaT q s2 0 = [] := by unfold vaT; rw [rdT_no hbt]
              have hG2 : GS 95 w wr g ge gs (stT q s2 1) (evV k a b n (vaT q s2 0) [] []) #[.pointer (some ⟨ge, 4, none⟩), .pointer (some ⟨ge, 5, none⟩), .pointer (some ⟨ge, 6, none⟩)] := by rw [h1, h2]; exact hG
              have HG := Lib.hid hG2
              clear hbt h1 h2 hG hG2
              go_wp2_with fail
              go_roundw
              case rel => exact ⟨1, by omega, by omega, rfl, HG.out⟩
              case measure => simp [intOf]
          · have i0 := arrS_1
            have hG : GS 95 w wr g ge gs (stT q s2 1) (evV k a b n (vaT q s2 0) [] []) #[.pointer (some ⟨ge, 4, none⟩), .pointer (some ⟨ge, 5, none⟩), .pointer (some ⟨ge, 6, none⟩)] := hG
            cases hbt : bitB q 1 with
            | true =>
              have e1 : (bits .and .i64 ((q : Int) / 2) 1 == 1) = true := (bitT_1 hq8).trans hbt
              have HS : Hid ((stT q s2 1).text = (vaT q s2 1, stT q s2 2)) := Lib.hid (by rw [stT_1]; unfold vaT; rw [rdT_yes hbt])
              have HR := Lib.hid (readText_any g (stT q s2 1) wr hG.rd)
              rw [HS.out] at HR
              clear hbt HS
              have HGS := Lib.hid (fun W (h1 : RdT 95 W g (stT q s2 2)) (h2 : wr.grownBy W (some g)) => (GS.store (GS.read (w3 := W) hG h1 h2) 5 (.string ⟨(vaT q s2 1).toArray⟩) (cs' := evV k a b n (vaT q s2 0) (vaT q s2 1) []) rfl))
              have HEV := Lib.hid (fun W (h1 : RdT 95 W g (stT q s2 2)) (h2 : wr.grownBy W (some g)) => (GS.read (w3 := W) hG h1 h2).ev)
              go_wp2_with fail
              (with_reducible refine (HR.out).mono ?_)
              rintro e w3 ⟨rfl, hR3, hg3⟩
              have hev := HEV.out w3 hR3 hg3
              have q1 := hev.cell 5
              have q2 := hev.frozen 5
              simp only [evV] at q1
              simp at q1
              go_wp2_with fail
              go_roundw
              case rel => exact ⟨2, by omega, by omega, rfl, HGS.out w3 hR3 hg3⟩
              case measure => simp [intOf]
            | false =>
              have e1 : (bits .and .i64 ((q : Int) / 2) 1 == 1) = false := (bitT_1 hq8).trans hbt
              have h1 : stT q s2 2 = (stT q s2 1) := by rw [stT_1, rdT_no hbt]
              have h2 : vaT q s2 1 = [] := by unfold vaT; rw [rdT_no hbt]
              have hG2 : GS 95 w wr g ge gs (stT q s2 2) (evV k a b n (vaT q s2 0) (vaT q s2 1) []) #[.pointer (some ⟨ge, 4, none⟩), .pointer (some ⟨ge, 5, none⟩), .pointer (some ⟨ge, 6, none⟩)] := by rw [h1, h2]; exact hG
              have HG := Lib.hid hG2
              clear hbt h1 h2 hG hG2
              go_wp2_with fail
              go_roundw
              case rel => exact ⟨2, by omega, by omega, rfl, HG.out⟩
              case measure => simp [intOf]
          · have i0 := arrS_2
            have hG : GS 95 w wr g ge gs (stT q s2 2) (evV k a b n (vaT q s2 0) (vaT q s2 1) []) #[.pointer (some ⟨ge, 4, none⟩), .pointer (some ⟨ge, 5, none⟩), .pointer (some ⟨ge, 6, none⟩)] := hG
            cases hbt : bitB q 2 with
            | true =>
              have e1 : (bits .and .i64 ((q : Int) / 4) 1 == 1) = true := (bitT_2 hq8).trans hbt
              have HS : Hid ((stT q s2 2).text = (vaT q s2 2, stT q s2 3)) := Lib.hid (by rw [stT_2]; unfold vaT; rw [rdT_yes hbt])
              have HR := Lib.hid (readText_any g (stT q s2 2) wr hG.rd)
              rw [HS.out] at HR
              clear hbt HS
              have HGS := Lib.hid (fun W (h1 : RdT 95 W g (stT q s2 3)) (h2 : wr.grownBy W (some g)) => (GS.store (GS.read (w3 := W) hG h1 h2) 6 (.string ⟨(vaT q s2 2).toArray⟩) (cs' := evV k a b n (vaT q s2 0) (vaT q s2 1) (vaT q s2 2)) rfl))
              have HEV := Lib.hid (fun W (h1 : RdT 95 W g (stT q s2 3)) (h2 : wr.grownBy W (some g)) => (GS.read (w3 := W) hG h1 h2).ev)
              go_wp2_with fail
              (with_reducible refine (HR.out).mono ?_)
              rintro e w3 ⟨rfl, hR3, hg3⟩
              have hev := HEV.out w3 hR3 hg3
              have q1 := hev.cell 6
              have q2 := hev.frozen 6
              simp only [evV] at q1
              simp at q1
              go_wp2_with fail
              go_roundw
              case rel => exact ⟨3, by omega, by omega, rfl, HGS.out w3 hR3 hg3⟩
              case measure => simp [intOf]
            | false =>
              have e1 : (bits .and .i64 ((q : Int) / 4) 1 == 1) = false := (bitT_2 hq8).trans hbt
              have h1 : stT q s2 3 = (stT q s2 2) := by rw [stT_2, rdT_no hbt]
              have h2 : vaT q s2 2 = [] := by unfold vaT; rw [rdT_no hbt]
              have hG2 : GS 95 w wr g ge gs (stT q s2 3) (evV k a b n (vaT q s2 0) (vaT q s2 1) (vaT q s2 2)) #[.pointer (some ⟨ge, 4, none⟩), .pointer (some ⟨ge, 5, none⟩), .pointer (some ⟨ge, 6, none⟩)] := by rw [h1, h2]; exact hG
              have HG := Lib.hid hG2
              clear hbt h1 h2 hG hG2
              go_wp2_with fail
              go_roundw
              case rel => exact ⟨3, by omega, by omega, rfl, HG.out⟩
              case measure => simp [intOf]
          · have hG : GS 95 w wr g ge gs (stT q s2 3) (evV k a b n (vaT q s2 0) (vaT q s2 1) (vaT q s2 2)) #[.pointer (some ⟨ge, 4, none⟩), .pointer (some ⟨ge, 5, none⟩), .pointer (some ⟨ge, 6, none⟩)] := hG
            have hs := vaT_len q s2 0
            have ht := vaT_len q s2 1
            have hu := vaT_len q s2 2
            generalize vaT q s2 0 = s at *
            generalize vaT q s2 1 = t at *
            generalize vaT q s2 2 = u at *
            generalize stT q s2 3 = s3 at *
            have HBAD := Lib.hid (bad_any g s3 wr hG.rd)
            have HLEFT := Lib.hid (left_any g s3 wr hG.rd)
            have HCK := Lib.hid (fun W => check14_any k a b n s t u W (by omega) (by omega) (by omega))
            have HG := Lib.hid hG
            have hsz := hG.bel.size
            have hfz := hG.res.frozen
            have hrc := hG.res.cell
            have hec := hG.ev.cell
            have ec0 := hec 0
            have ec1 := hec 1
            have ec2 := hec 2
            have ec3 := hec 3
            have ec4 := hec 4
            have ec5 := hec 5
            have ec6 := hec 6
            simp only [evV] at ec0 ec1 ec2 ec3 ec4 ec5 ec6
            simp at ec0 ec1 ec2 ec3 ec4 ec5 ec6
            clear hec
            have rc0 : ∀ i, wr.frozen? ⟨w.heap.size, i, none⟩ = false := hfz
            have qc0 := hrc 0
            have qc1 := hrc 1
            have qc2 := hrc 2
            have qc3 := hrc 3
            have qc4 := hrc 4
            have qc5 := hrc 5
            have qc6 := hrc 6
            simp only [evV] at qc0 qc1 qc2 qc3 qc4 qc5 qc6
            simp at qc0 qc1 qc2 qc3 qc4 qc5 qc6
            clear hrc hfz hG
            obtain ⟨fl, fb⟩ := s3
            simp only at HY HBAD HLEFT
            cases fb with
            | true =>
              have HR := Lib.hid (HY.out.trans (if_neg (fun h => by cases h.1)))
              clear HY HLEFT HCK
              go_wp2_with fail
              (with_reducible refine (HBAD.out).mono ?_)
              rintro e w7 ⟨rfl, rfl⟩
              go_wp2_with fail
              have HZ := set7 HG.out.res rfl (.int .i64 0) (.int .i64 0) (.int .i64 0) (.int .i64 0) (.string ⟨#[]⟩) (.string ⟨#[]⟩) (.string ⟨#[]⟩)
              have z0 := HZ.cell 0
              have z1 := HZ.cell 1
              have z2 := HZ.cell 2
              have z3 := HZ.cell 3
              have z4 := HZ.cell 4
              have z5 := HZ.cell 5
              have z6 := HZ.cell 6
              simp at z0 z1 z2 z3 z4 z5 z6
              exact bodyPost_ret (v := getV none) (by simp [results, Tryz.results70, go_sem, getV, evV, z0, z1, z2, z3, z4, z5, z6]) rfl ⟨by rw [HR.out], bel7 HG.out.bel (Nat.le_refl _) _ _ _ _ _ _ _⟩
            | false =>
              have HLEFT := Lib.hid (show Calls Tryz.prog 47 #[.pointer (some ⟨g, 0, none⟩)] wr fun e w' => e = .returned (.int .i64 (fl.length : Int)) ∧ wr = w' from HLEFT.out)
              by_cases hfl : 0 < fl.length
              · have HR := Lib.hid (HY.out.trans (if_neg (fun h => by rw [h.2.1] at hfl; simp at hfl)))
                clear HY HCK
                go_wp2_with fail
                (with_reducible refine (HBAD.out).mono ?_)
                rintro e w7 ⟨rfl, rfl⟩
                go_wp2_with fail
                (with_reducible refine (HLEFT.out).mono ?_)
                rintro e w7 ⟨rfl, rfl⟩
                go_wp2_with fail
                have HZ := set7 HG.out.res rfl (.int .i64 0) (.int .i64 0) (.int .i64 0) (.int .i64 0) (.string ⟨#[]⟩) (.string ⟨#[]⟩) (.string ⟨#[]⟩)
                have z0 := HZ.cell 0
                have z1 := HZ.cell 1
                have z2 := HZ.cell 2
                have z3 := HZ.cell 3
                have z4 := HZ.cell 4
                have z5 := HZ.cell 5
                have z6 := HZ.cell 6
                simp at z0 z1 z2 z3 z4 z5 z6
                exact bodyPost_ret (v := getV none) (by simp [results, Tryz.results70, go_sem, getV, evV, z0, z1, z2, z3, z4, z5, z6]) rfl ⟨by rw [HR.out], bel7 HG.out.bel (Nat.le_refl _) _ _ _ _ _ _ _⟩
              · have hfn : fl = [] := List.eq_nil_of_length_eq_zero (by omega)
                subst hfn
                clear hfl
                simp only [List.length_nil] at HLEFT
                cases hok : evOK k a b n s t u with
                | false =>
                  have HR := Lib.hid (HY.out.trans (if_neg (fun h => by have h3 := h.2.2; unfold Ev.ok at h3; rw [hok] at h3; cases h3)))
                  rw [hok] at HCK
                  simp only [evV] at HCK
                  clear HY hok
                  go_wp2_with fail
                  (with_reducible refine (HBAD.out).mono ?_)
                  rintro e w7 ⟨rfl, rfl⟩
                  go_wp2_with fail
                  (with_reducible refine (HLEFT.out).mono ?_)
                  rintro e w7 ⟨rfl, rfl⟩
                  go_wp2_with fail
                  (with_reducible refine (HCK.out _).mono ?_)
                  rintro e w8 ⟨rfl, hb8⟩
                  have hres8 := HG.out.res.below hb8 HG.out.res.lt
                  have B8 := bel_step HG.out.bel hb8
                  have hfz8 := hres8.frozen
                  have qc0 := hres8.cell 0
                  have qc1 := hres8.cell 1
                  have qc2 := hres8.cell 2
                  have qc3 := hres8.cell 3
                  have qc4 := hres8.cell 4
                  have qc5 := hres8.cell 5
                  have qc6 := hres8.cell 6
                  simp only [evV] at qc0 qc1 qc2 qc3 qc4 qc5 qc6
                  simp at qc0 qc1 qc2 qc3 qc4 qc5 qc6
                  have HRES := Lib.hid hres8
                  clear hres8 hb8
                  go_wp2_with fail
                  have HZ := set7 HRES.out rfl (.int .i64 0) (.int .i64 0) (.int .i64 0) (.int .i64 0) (.string ⟨#[]⟩) (.string ⟨#[]⟩) (.string ⟨#[]⟩)
                  have z0 := HZ.cell 0
                  have z1 := HZ.cell 1
                  have z2 := HZ.cell 2
                  have z3 := HZ.cell 3
                  have z4 := HZ.cell 4
                  have z5 := HZ.cell 5
                  have z6 := HZ.cell 6
                  simp at z0 z1 z2 z3 z4 z5 z6
                  exact bodyPost_ret (v := getV none) (by simp [results, Tryz.results70, go_sem, getV, evV, z0, z1, z2, z3, z4, z5, z6]) rfl ⟨by rw [HR.out], bel7 B8 (Nat.le_refl _) _ _ _ _ _ _ _⟩
                | true =>
                  have HR := Lib.hid (HY.out.trans (if_pos ⟨rfl, rfl, hok⟩))
                  rw [hok] at HCK
                  simp only [evV] at HCK
                  clear HY hok
                  go_wp2_with fail
                  (with_reducible refine (HBAD.out).mono ?_)
                  rintro e w7 ⟨rfl, rfl⟩
                  go_wp2_with fail
                  (with_reducible refine (HLEFT.out).mono ?_)
                  rintro e w7 ⟨rfl, rfl⟩
                  go_wp2_with fail
                  (with_reducible refine (HCK.out _).mono ?_)
                  rintro e w8 ⟨rfl, hb8⟩
                  have hev8 := HG.out.ev.below hb8 HG.out.ev.lt
                  have hres8 := HG.out.res.below hb8 HG.out.res.lt
                  have B8 := bel_step HG.out.bel hb8
                  have hfz8 := hres8.frozen
                  have qc0 := hres8.cell 0
                  have qc1 := hres8.cell 1
                  have qc2 := hres8.cell 2
                  have qc3 := hres8.cell 3
                  have qc4 := hres8.cell 4
                  have qc5 := hres8.cell 5
                  have qc6 := hres8.cell 6
                  have ec0 := hev8.cell 0
                  have ec1 := hev8.cell 1
                  have ec2 := hev8.cell 2
                  have ec3 := hev8.cell 3
                  have ec4 := hev8.cell 4
                  have ec5 := hev8.cell 5
                  have ec6 := hev8.cell 6
                  simp only [evV] at ec0 ec1 ec2 ec3 ec4 ec5 ec6 qc0 qc1 qc2 qc3 qc4 qc5 qc6
                  simp at ec0 ec1 ec2 ec3 ec4 ec5 ec6 qc0 qc1 qc2 qc3 qc4 qc5 qc6
                  have HRES := Lib.hid hres8
                  clear hres8 hb8 hev8
                  go_wp2_with fail
                  have HZ := set7 HRES.out rfl (.int .i64 k) (.int .i64 a) (.int .i64 b) (.int .i64 n) (.string ⟨s.toArray⟩) (.string ⟨t.toArray⟩) (.string ⟨u.toArray⟩)
                  have z0 := HZ.cell 0
                  have z1 := HZ.cell 1
                  have z2 := HZ.cell 2
                  have z3 := HZ.cell 3
                  have z4 := HZ.cell 4
                  have z5 := HZ.cell 5
                  have z6 := HZ.cell 6
                  simp at z0 z1 z2 z3 z4 z5 z6
                  exact bodyPost_ret (v := getV (some ⟨k, a, b, n, s, t, u⟩)) (by simp [results, Tryz.results70, go_sem, getV, evV, z0, z1, z2, z3, z4, z5, z6]) rfl ⟨by rw [HR.out], bel7 B8 (Nat.le_refl _) _ _ _ _ _ _ _⟩
  · have HR := Lib.hid (HN.out h3)
    have d3 : ((b0 : Int) != 3) = true := by simp; omega
    have d3' : ((b0 : Int) == 3) = false := by simp; omega
    have qc0 := hres2.cell 0
    have qc1 := hres2.cell 1
    have qc2 := hres2.cell 2
    have qc3 := hres2.cell 3
    have qc4 := hres2.cell 4
    have qc5 := hres2.cell 5
    have qc6 := hres2.cell 6
    simp only [evV] at qc0 qc1 qc2 qc3 qc4 qc5 qc6
    simp at qc0 qc1 qc2 qc3 qc4 qc5 qc6
    have hfz := hres2.frozen
    clear h3 HN HY
    have HRES := Lib.hid hres2
    go_wp2_with fail
    have HZ := set7 HRES.out rfl (.int .i64 0) (.int .i64 0) (.int .i64 0) (.int .i64 0) (.string ⟨#[]⟩) (.string ⟨#[]⟩) (.string ⟨#[]⟩)
    have z0 := HZ.cell 0
    have z1 := HZ.cell 1
    have z2 := HZ.cell 2
    have z3 := HZ.cell 3
    have z4 := HZ.cell 4
    have z5 := HZ.cell 5
    have z6 := HZ.cell 6
    simp at z0 z1 z2 z3 z4 z5 z6
    exact bodyPost_ret (v := getV none) (by simp [results, Tryz.results70, go_sem, getV, evV, z0, z1, z2, z3, z4, z5, z6]) rfl ⟨by rw [HR.out], bel7 B2 (Nat.le_refl _) _ _ _ _ _ _ _⟩
end Go.Proofs.YtfepinnfhcjopaaGreatDoor
end
section
namespace Go.Proofs.YtfepinnfhcjopaaGreatDoor
open Go.RowKit Go.Nst
set_option maxRecDepth 100000
set_option linter.unusedVariables false
set_option linter.unusedSimpArgs false

set_option maxHeartbeats 8000000 in
theorem refCode_any (e : Ev) (w : World) (h0 : e.ok = true) : Calls Tryz.prog 24 #[.agg (evV e.k e.a e.b e.n e.s e.t e.u)] w (RetB w (codeL e)) := by
  have f := evF h0
  clear h0
  obtain ⟨k, a, b, n, s, t, u⟩ := e
  obtain ⟨ka, kz, ha, hb, hn, hs, ht, hu, -, -, -, -, -, -⟩ := f
  simp only [evV] at *
  have HU := Lib.hid (fun W => refUses15_any k W)
  have hm8 := usesN_lt k
  have hq8 := usesT_lt k
  have HL : Hid ([3, UInt8.ofNat k.toNat] ++ (numsL (usesN k) a b n 3 ++ textsL (usesT k) s t u 3) = codeL ⟨k, a, b, n, s, t, u⟩) := rfl
  generalize codeL ⟨k, a, b, n, s, t, u⟩ = res at *
  generalize usesN k = m at *
  generalize usesT k = q at *
  have k8 : ((UInt8.ofNat k.toNat).toNat : Int) = k := by rw [u8_of _ (by omega)]; omega
  have HO : Hid (Ow ((((w.alloc (.cells #[.int .i64 k, .int .i64 a, .int .i64 b, .int .i64 n, .string ⟨s.toArray⟩, .string ⟨t.toArray⟩, .string ⟨u.toArray⟩] 50)).alloc (.cells #[.int .u8 3, .int .u8 k] 5)).alloc (.cells #[.int .i64 a, .int .i64 b, .int .i64 n] 3)).alloc (.cells #[.string ⟨s.toArray⟩, .string ⟨t.toArray⟩, .string ⟨u.toArray⟩] 9)) w.heap.size (some ⟨w.heap.size + 1, 0, none⟩) 2 2 ([3, UInt8.ofNat k.toNat] ++ (numsL m a b n 0))) := Lib.hid (by
    have := (Ow.made (base := w.heap.size) (w.alloc (.cells #[.int .i64 k, .int .i64 a, .int .i64 b, .int .i64 n, .string ⟨s.toArray⟩, .string ⟨t.toArray⟩, .string ⟨u.toArray⟩] 50)) [3, UInt8.ofNat k.toNat] #[.int .u8 3, .int .u8 k] (by simp only [bv, List.map_cons, List.map_nil, k8]; rfl) (by unfold maxLen; simp) (by simp)).below (bel_alloc (bel_alloc (Below.refl _ _) (.cells #[.int .i64 a, .int .i64 b, .int .i64 n] 3)) (.cells #[.string ⟨s.toArray⟩, .string ⟨t.toArray⟩, .string ⟨u.toArray⟩] 9))
    simpa [numsL] using this)
  have HB : Hid (Below w.heap.size w ((((w.alloc (.cells #[.int .i64 k, .int .i64 a, .int .i64 b, .int .i64 n, .string ⟨s.toArray⟩, .string ⟨t.toArray⟩, .string ⟨u.toArray⟩] 50)).alloc (.cells #[.int .u8 3, .int .u8 k] 5)).alloc (.cells #[.int .i64 a, .int .i64 b, .int .i64 n] 3)).alloc (.cells #[.string ⟨s.toArray⟩, .string ⟨t.toArray⟩, .string ⟨u.toArray⟩] 9))) := Lib.hid (bel_alloc (bel_alloc (bel_alloc (bel_alloc (Below.refl _ _) _) _) _) _)
  have HI : Hid (Blk ((((w.alloc (.cells #[.int .i64 k, .int .i64 a, .int .i64 b, .int .i64 n, .string ⟨s.toArray⟩, .string ⟨t.toArray⟩, .string ⟨u.toArray⟩] 50)).alloc (.cells #[.int .u8 3, .int .u8 k] 5)).alloc (.cells #[.int .i64 a, .int .i64 b, .int .i64 n] 3)).alloc (.cells #[.string ⟨s.toArray⟩, .string ⟨t.toArray⟩, .string ⟨u.toArray⟩] 9)) (w.heap.size + 1 + 1) 3 #[.int .i64 a, .int .i64 b, .int .i64 n]) := Lib.hid (by
    have := (Blk.new ((w.alloc (.cells #[.int .i64 k, .int .i64 a, .int .i64 b, .int .i64 n, .string ⟨s.toArray⟩, .string ⟨t.toArray⟩, .string ⟨u.toArray⟩] 50)).alloc (.cells #[.int .u8 3, .int .u8 k] 5)) 3 #[.int .i64 a, .int .i64 b, .int .i64 n]).alloc (.cells #[.string ⟨s.toArray⟩, .string ⟨t.toArray⟩, .string ⟨u.toArray⟩] 9)
    simpa using this)
  have HT : Hid (Blk ((((w.alloc (.cells #[.int .i64 k, .int .i64 a, .int .i64 b, .int .i64 n, .string ⟨s.toArray⟩, .string ⟨t.toArray⟩, .string ⟨u.toArray⟩] 50)).alloc (.cells #[.int .u8 3, .int .u8 k] 5)).alloc (.cells #[.int .i64 a, .int .i64 b, .int .i64 n] 3)).alloc (.cells #[.string ⟨s.toArray⟩, .string ⟨t.toArray⟩, .string ⟨u.toArray⟩] 9)) (w.heap.size + 1 + 1 + 1) 9 #[.string ⟨s.toArray⟩, .string ⟨t.toArray⟩, .string ⟨u.toArray⟩]) := Lib.hid (by
    have := Blk.new (((w.alloc (.cells #[.int .i64 k, .int .i64 a, .int .i64 b, .int .i64 n, .string ⟨s.toArray⟩, .string ⟨t.toArray⟩, .string ⟨u.toArray⟩] 50)).alloc (.cells #[.int .u8 3, .int .u8 k] 5)).alloc (.cells #[.int .i64 a, .int .i64 b, .int .i64 n] 3)) 9 #[.string ⟨s.toArray⟩, .string ⟨t.toArray⟩, .string ⟨u.toArray⟩]
    simpa using this)
  clear k8
  go_enter Tryz.func24, Tryz.ntmps24
  go_wp2_with fail
  (with_reducible refine (HU.out _).mono ?_)
  rintro e w2 ⟨rfl, rfl⟩
  go_wp2_with fail
  go_loopw [5, 8] (fun v i wr => ∃ (z : Int) (A : Option Addr) (len c : Nat), 0 ≤ z ∧ z ≤ 3 ∧ i = .int .i64 z ∧ v = .slice A len c ∧ Ow wr w.heap.size A len c ([3, UInt8.ofNat k.toNat] ++ (numsL m a b n z.toNat)) ∧ Below w.heap.size w wr ∧ Blk wr (w.heap.size + 1 + 1) 3 #[.int .i64 a, .int .i64 b, .int .i64 n] ∧ Blk wr (w.heap.size + 1 + 1 + 1) 9 #[.string ⟨s.toArray⟩, .string ⟨t.toArray⟩, .string ⟨u.toArray⟩] ∧ (len : Int) ≤ 2 + 11 * z) (fun _ i _ => (3 - intOf i).toNat)
  case atStart => exact ⟨0, _, 2, 2, by omega, by omega, rfl, rfl, HO.out, HB.out, HI.out, HT.out, by omega⟩
  case round =>
    clear HO HB HI HT
    obtain ⟨z, A, len, c, hz0, hz3, rfl, rfl, hO, hB, hI, hT, hlen⟩ := hrel
    rcases (by omega : z = 0 ∨ z = 1 ∨ z = 2 ∨ z = 3) with rfl | rfl | rfl | rfl
    · have hO : Ow wr w.heap.size A len c ([3, UInt8.ofNat k.toNat] ++ (numsL m a b n 0)) := hO
      have d1 := hI.cell 0
      simp at d1
      cases hbt : bitB m 0 with
      | true =>
        have e1 : (bits .and .i64 (m : Int) 1 == 1) = true := (bitT_0 hm8).trans hbt
        have HN : Hid ([3, UInt8.ofNat k.toNat] ++ (numsL m a b n 0) ++ putL (zig a) = [3, UInt8.ofNat k.toNat] ++ (numsL m a b n 1)) := Lib.hid (by rw [numsL_0, selN_yes hbt]; simp)
        have HP := Lib.hid (fun W => refPut_any a W ha)
        have hlp : (putL (zig a)).length ≤ 11 := (putL_len (zig a)).2
        clear hbt
        generalize [3, UInt8.ofNat k.toNat] ++ (numsL m a b n 0) = l0 at *
        generalize hl1 : [3, UInt8.ofNat k.toNat] ++ (numsL m a b n 1) = l1 at *
        have HL1 := Lib.hid hl1
        clear hl1
        generalize putL (zig a) = px at *
        go_wp2_with fail
        (with_reducible refine (HP.out wr).mono ?_)
        rintro e w3 ⟨A3, n3, c3, rfl, ho3, hb3⟩
        have hl3 := ho3.len
        have hn3 : n3 ≤ 11 := by omega
        clear hl3
        have hO3 := hO.below hb3
        have B3 := bel_step hB hb3
        have hI3 := hI.below hb3 hI.lt
        have hT3 := hT.below hb3 hT.lt
        have hs3 : w.heap.size ≤ w3.heap.size := B3.size
        go_wp2_with (at_builtin; refine wpList_appBg _ iBytes rfl rfl rfl hO3 rfl ho3.bs (len + n3) l1 rfl HN.out (by omega) hs3 ?_; intro A' c' w' ho hb hg _)
        go_roundw
        case rel => exact ⟨1, A', len + n3, c', by omega, by omega, rfl, rfl, by rw [← HL1.out] at ho; exact ho, B3.trans hb, hI3.grown hg (ow_apart hO3 hI3 (by decide)), hT3.grown hg (ow_apart hO3 hT3 (by decide)), by omega⟩
        case measure => simp [intOf]
      | false =>
        have e1 : (bits .and .i64 (m : Int) 1 == 1) = false := (bitT_0 hm8).trans hbt
        have HN : Hid ([3, UInt8.ofNat k.toNat] ++ (numsL m a b n 0) = [3, UInt8.ofNat k.toNat] ++ (numsL m a b n 1)) := Lib.hid (by rw [numsL_0, selN_no hbt]; simp)
        rw [HN.out] at hO
        clear hbt HN
        go_wp2_with fail
        go_roundw
        case rel => exact ⟨1, A, len, c, by omega, by omega, rfl, rfl, hO, hB, hI, hT, by omega⟩
        case measure => simp [intOf]
    · have hO : Ow wr w.heap.size A len c ([3, UInt8.ofNat k.toNat] ++ (numsL m a b n 1)) := hO
      have d1 := hI.cell 1
      simp at d1
      cases hbt : bitB m 1 with
      | true =>
        have e1 : (bits .and .i64 ((m : Int) / 2) 1 == 1) = true := (bitT_1 hm8).trans hbt
        have HN : Hid ([3, UInt8.ofNat k.toNat] ++ (numsL m a b n 1) ++ putL (zig b) = [3, UInt8.ofNat k.toNat] ++ (numsL m a b n 2)) := Lib.hid (by rw [numsL_1, selN_yes hbt]; simp)
        have HP := Lib.hid (fun W => refPut_any b W hb)
        have hlp : (putL (zig b)).length ≤ 11 := (putL_len (zig b)).2
        clear hbt
        generalize [3, UInt8.ofNat k.toNat] ++ (numsL m a b n 1) = l0 at *
        generalize hl1 : [3, UInt8.ofNat k.toNat] ++ (numsL m a b n 2) = l1 at *
        have HL1 := Lib.hid hl1
        clear hl1
        generalize putL (zig b) = px at *
        go_wp2_with fail
        (with_reducible refine (HP.out wr).mono ?_)
        rintro e w3 ⟨A3, n3, c3, rfl, ho3, hb3⟩
        have hl3 := ho3.len
        have hn3 : n3 ≤ 11 := by omega
        clear hl3
        have hO3 := hO.below hb3
        have B3 := bel_step hB hb3
        have hI3 := hI.below hb3 hI.lt
        have hT3 := hT.below hb3 hT.lt
        have hs3 : w.heap.size ≤ w3.heap.size := B3.size
        go_wp2_with (at_builtin; refine wpList_appBg _ iBytes rfl rfl rfl hO3 rfl ho3.bs (len + n3) l1 rfl HN.out (by omega) hs3 ?_; intro A' c' w' ho hb hg _)
        go_roundw
        case rel => exact ⟨2, A', len + n3, c', by omega, by omega, rfl, rfl, by rw [← HL1.out] at ho; exact ho, B3.trans hb, hI3.grown hg (ow_apart hO3 hI3 (by decide)), hT3.grown hg (ow_apart hO3 hT3 (by decide)), by omega⟩
        case measure => simp [intOf]
      | false =>
        have e1 : (bits .and .i64 ((m : Int) / 2) 1 == 1) = false := (bitT_1 hm8).trans hbt
        have HN : Hid ([3, UInt8.ofNat k.toNat] ++ (numsL m a b n 1) = [3, UInt8.ofNat k.toNat] ++ (numsL m a b n 2)) := Lib.hid (by rw [numsL_1, selN_no hbt]; simp)
        rw [HN.out] at hO
        clear hbt HN
        go_wp2_with fail
        go_roundw
        case rel => exact ⟨2, A, len, c, by omega, by omega, rfl, rfl, hO, hB, hI, hT, by omega⟩
        case measure => simp [intOf]
    · have hO : Ow wr w.heap.size A len c ([3, UInt8.ofNat k.toNat] ++ (numsL m a b n 2)) := hO
      have d1 := hI.cell 2
      simp at d1
      cases hbt : bitB m 2 with
      | true =>
        have e1 : (bits .and .i64 ((m : Int) / 4) 1 == 1) = true := (bitT_2 hm8).trans hbt
        have HN : Hid ([3, UInt8.ofNat k.toNat] ++ (numsL m a b n 2) ++ putL (zig n) = [3, UInt8.ofNat k.toNat] ++ (numsL m a b n 3)) := Lib.hid (by rw [numsL_2, selN_yes hbt]; simp)
        have HP := Lib.hid (fun W => refPut_any n W hn)
        have hlp : (putL (zig n)).length ≤ 11 := (putL_len (zig n)).2
        clear hbt
        generalize [3, UInt8.ofNat k.toNat] ++ (numsL m a b n 2) = l0 at *
        generalize hl1 : [3, UInt8.ofNat k.toNat] ++ (numsL m a b n 3) = l1 at *
        have HL1 := Lib.hid hl1
        clear hl1
        generalize putL (zig n) = px at *
        go_wp2_with fail
        (with_reducible refine (HP.out wr).mono ?_)
        rintro e w3 ⟨A3, n3, c3, rfl, ho3, hb3⟩
        have hl3 := ho3.len
        have hn3 : n3 ≤ 11 := by omega
        clear hl3
        have hO3 := hO.below hb3
        have B3 := bel_step hB hb3
        have hI3 := hI.below hb3 hI.lt
        have hT3 := hT.below hb3 hT.lt
        have hs3 : w.heap.size ≤ w3.heap.size := B3.size
        go_wp2_with (at_builtin; refine wpList_appBg _ iBytes rfl rfl rfl hO3 rfl ho3.bs (len + n3) l1 rfl HN.out (by omega) hs3 ?_; intro A' c' w' ho hb hg _)
        go_roundw
        case rel => exact ⟨3, A', len + n3, c', by omega, by omega, rfl, rfl, by rw [← HL1.out] at ho; exact ho, B3.trans hb, hI3.grown hg (ow_apart hO3 hI3 (by decide)), hT3.grown hg (ow_apart hO3 hT3 (by decide)), by omega⟩
        case measure => simp [intOf]
      | false =>
        have e1 : (bits .and .i64 ((m : Int) / 4) 1 == 1) = false := (bitT_2 hm8).trans hbt
        have HN : Hid ([3, UInt8.ofNat k.toNat] ++ (numsL m a b n 2) = [3, UInt8.ofNat k.toNat] ++ (numsL m a b n 3)) := Lib.hid (by rw [numsL_2, selN_no hbt]; simp)
        rw [HN.out] at hO
        clear hbt HN
        go_wp2_with fail
        go_roundw
        case rel => exact ⟨3, A, len, c, by omega, by omega, rfl, rfl, hO, hB, hI, hT, by omega⟩
        case measure => simp [intOf]
    · have hO : Ow wr w.heap.size A len c ([3, UInt8.ofNat k.toNat] ++ (numsL m a b n 3)) := hO
      have HO2 : Hid (Ow wr w.heap.size A len c ([3, UInt8.ofNat k.toNat] ++ (numsL m a b n 3 ++ textsL q s t u 0))) := Lib.hid (by simpa [textsL] using hO)
      have HB2 := Lib.hid hB
      have HT2 := Lib.hid hT
      obtain ⟨wo, rfl⟩ : ∃ wo : World, wo = wr := ⟨_, rfl⟩
      go_wp2_with fail
      clear hO hB hI hT
      go_loopw [5, 9] (fun v i wr => ∃ (z : Int) (A : Option Addr) (len c : Nat), 0 ≤ z ∧ z ≤ 3 ∧ i = .int .i64 z ∧ v = .slice A len c ∧ Ow wr w.heap.size A len c ([3, UInt8.ofNat k.toNat] ++ (numsL m a b n 3 ++ textsL q s t u z.toNat)) ∧ Below w.heap.size w wr ∧ Blk wr (w.heap.size + 1 + 1 + 1) 9 #[.string ⟨s.toArray⟩, .string ⟨t.toArray⟩, .string ⟨u.toArray⟩] ∧ (len : Int) ≤ 35 + 600 * z) (fun _ i _ => (3 - intOf i).toNat)
      case atStart => exact ⟨0, A, len, c, by omega, by omega, rfl, rfl, HO2.out, HB2.out, HT2.out, by omega⟩
      case round =>
        clear HO2 HB2 HT2
        clear hlen
        obtain ⟨z, A, len, c, hz0, hz3, rfl, rfl, hO, hB, hT, hlen⟩ := hrel
        rcases (by omega : z = 0 ∨ z = 1 ∨ z = 2 ∨ z = 3) with rfl | rfl | rfl | rfl
        · have hO : Ow wr w.heap.size A len c ([3, UInt8.ofNat k.toNat] ++ (numsL m a b n 3 ++ textsL q s t u 0)) := hO
          have d1 := hT.cell 0
          simp at d1
          cases hbt : bitB q 0 with
          | true =>
            have e1 : (bits .and .i64 (q : Int) 1 == 1) = true := (bitT_0 hq8).trans hbt
            have HN : Hid ([3, UInt8.ofNat k.toNat] ++ (numsL m a b n 3 ++ textsL q s t u 0) ++ textL s = [3, UInt8.ofNat k.toNat] ++ (numsL m a b n 3 ++ textsL q s t u 1)) := Lib.hid (by rw [textsL_0, selT_yes hbt]; simp)
            have HP := Lib.hid (fun W => refText1_any s s.length rfl (by omega) W)
            have hlp : (textL s).length ≤ 600 := by have := textL_len s; omega
            clear hbt
            generalize [3, UInt8.ofNat k.toNat] ++ (numsL m a b n 3 ++ textsL q s t u 0) = l0 at *
            generalize hl1 : [3, UInt8.ofNat k.toNat] ++ (numsL m a b n 3 ++ textsL q s t u 1) = l1 at *
            have HL1 := Lib.hid hl1
            clear hl1
            generalize textL s = px at *
            go_wp2_with fail
            (with_reducible refine (HP.out wr).mono ?_)
            rintro e w3 ⟨A3, n3, c3, rfl, ho3, hb3⟩
            have hl3 := ho3.len
            have hn3 : n3 ≤ 600 := by omega
            clear hl3
            have hO3 := hO.below hb3
            have B3 := bel_step hB hb3
            have hT3 := hT.below hb3 hT.lt
            have hs3 : w.heap.size ≤ w3.heap.size := B3.size
            go_wp2_with (at_builtin; refine wpList_appBg _ iBytes rfl rfl rfl hO3 rfl ho3.bs (len + n3) l1 rfl HN.out (by omega) hs3 ?_; intro A' c' w' ho hb hg _)
            go_roundw
            case rel => exact ⟨1, A', len + n3, c', by omega, by omega, rfl, rfl, by rw [← HL1.out] at ho; exact ho, B3.trans hb, hT3.grown hg (ow_apart hO3 hT3 (by decide)), by omega⟩
            case measure => simp [intOf]
          | false =>
            have e1 : (bits .and .i64 (q : Int) 1 == 1) = false := (bitT_0 hq8).trans hbt
            have HN : Hid ([3, UInt8.ofNat k.toNat] ++ (numsL m a b n 3 ++ textsL q s t u 0) = [3, UInt8.ofNat k.toNat] ++ (numsL m a b n 3 ++ textsL q s t u 1)) := Lib.hid (by rw [textsL_0, selT_no hbt]; simp)
            rw [HN.out] at hO
            clear hbt HN
            go_wp2_with fail
            go_roundw
            case rel => exact ⟨1, A, len, c, by omega, by omega, rfl, rfl, hO, hB, hT, by omega⟩
            case measure => simp [intOf]
        · have hO : Ow wr w.heap.size A len c ([3, UInt8.ofNat k.toNat] ++ (numsL m a b n 3 ++ textsL q s t u 1)) := hO
          have d1 := hT.cell 1
          simp at d1
          cases hbt : bitB q 1 with
          | true =>
            have e1 : (bits .and .i64 ((q : Int) / 2) 1 == 1) = true := (bitT_1 hq8).trans hbt
            have HN : Hid ([3, UInt8.ofNat k.toNat] ++ (numsL m a b n 3 ++ textsL q s t u 1) ++ textL t = [3, UInt8.ofNat k.toNat] ++ (numsL m a b n 3 ++ textsL q s t u 2)) := Lib.hid (by rw [textsL_1, selT_yes hbt]; simp)
            have HP := Lib.hid (fun W => refText1_any t t.length rfl (by omega) W)
            have hlp : (textL t).length ≤ 600 := by have := textL_len t; omega
            clear hbt
            generalize [3, UInt8.ofNat k.toNat] ++ (numsL m a b n 3 ++ textsL q s t u 1) = l0 at *
            generalize hl1 : [3, UInt8.ofNat k.toNat] ++ (numsL m a b n 3 ++ textsL q s t u 2) = l1 at *
            have HL1 := Lib.hid hl1
            clear hl1
            generalize textL t = px at *
            go_wp2_with fail
            (with_reducible refine (HP.out wr).mono ?_)
            rintro e w3 ⟨A3, n3, c3, rfl, ho3, hb3⟩
            have hl3 := ho3.len
            have hn3 : n3 ≤ 600 := by omega
            clear hl3
            have hO3 := hO.below hb3
            have B3 := bel_step hB hb3
            have hT3 := hT.below hb3 hT.lt
            have hs3 : w.heap.size ≤ w3.heap.size := B3.size
            go_wp2_with (at_builtin; refine wpList_appBg _ iBytes rfl rfl rfl hO3 rfl ho3.bs (len + n3) l1 rfl HN.out (by omega) hs3 ?_; intro A' c' w' ho hb hg _)
            go_roundw
            case rel => exact ⟨2, A', len + n3, c', by omega, by omega, rfl, rfl, by rw [← HL1.out] at ho; exact ho, B3.trans hb, hT3.grown hg (ow_apart hO3 hT3 (by decide)), by omega⟩
            case measure => simp [intOf]
          | false =>
            have e1 : (bits .and .i64 ((q : Int) / 2) 1 == 1) = false := (bitT_1 hq8).trans hbt
            have HN : Hid ([3, UInt8.ofNat k.toNat] ++ (numsL m a b n 3 ++ textsL q s t u 1) = [3, UInt8.ofNat k.toNat] ++ (numsL m a b n 3 ++ textsL q s t u 2)) := Lib.hid (by rw [textsL_1, selT_no hbt]; simp)
            rw [HN.out] at hO
            clear hbt HN
            go_wp2_with fail
            go_roundw
            case rel => exact ⟨2, A, len, c, by omega, by omega, rfl, rfl, hO, hB, hT, by omega⟩
            case measure => simp [intOf]
        · have hO : Ow wr w.heap.size A len c ([3, UInt8.ofNat k.toNat] ++ (numsL m a b n 3 ++ textsL q s t u 2)) := hO
          have d1 := hT.cell 2
          simp at d1
          cases hbt : bitB q 2 with
          | true =>
            have e1 : (bits .and .i64 ((q : Int) / 4) 1 == 1) = true := (bitT_2 hq8).trans hbt
            have HN : Hid ([3, UInt8.ofNat k.toNat] ++ (numsL m a b n 3 ++ textsL q s t u 2) ++ textL u = [3, UInt8.ofNat k.toNat] ++ (numsL m a b n 3 ++ textsL q s t u 3)) := Lib.hid (by rw [textsL_2, selT_yes hbt]; simp)
            have HP := Lib.hid (fun W => refText1_any u u.length rfl (by omega) W)
            have hlp : (textL u).length ≤ 600 := by have := textL_len u; omega
            clear hbt
            generalize [3, UInt8.ofNat k.toNat] ++ (numsL m a b n 3 ++ textsL q s t u 2) = l0 at *
            generalize hl1 : [3, UInt8.ofNat k.toNat] ++ (numsL m a b n 3 ++ textsL q s t u 3) = l1 at *
            have HL1 := Lib.hid hl1
            clear hl1
            generalize textL u = px at *
            go_wp2_with fail
            (with_reducible refine (HP.out wr).mono ?_)
            rintro e w3 ⟨A3, n3, c3, rfl, ho3, hb3⟩
            have hl3 := ho3.len
            have hn3 : n3 ≤ 600 := by omega
            clear hl3
            have hO3 := hO.below hb3
            have B3 := bel_step hB hb3
            have hT3 := hT.below hb3 hT.lt
            have hs3 : w.heap.size ≤ w3.heap.size := B3.size
            go_wp2_with (at_builtin; refine wpList_appBg _ iBytes rfl rfl rfl hO3 rfl ho3.bs (len + n3) l1 rfl HN.out (by omega) hs3 ?_; intro A' c' w' ho hb hg _)
            go_roundw
            case rel => exact ⟨3, A', len + n3, c', by omega, by omega, rfl, rfl, by rw [← HL1.out] at ho; exact ho, B3.trans hb, hT3.grown hg (ow_apart hO3 hT3 (by decide)), by omega⟩
            case measure => simp [intOf]
          | false =>
            have e1 : (bits .and .i64 ((q : Int) / 4) 1 == 1) = false := (bitT_2 hq8).trans hbt
            have HN : Hid ([3, UInt8.ofNat k.toNat] ++ (numsL m a b n 3 ++ textsL q s t u 2) = [3, UInt8.ofNat k.toNat] ++ (numsL m a b n 3 ++ textsL q s t u 3)) := Lib.hid (by rw [textsL_2, selT_no hbt]; simp)
            rw [HN.out] at hO
            clear hbt HN
            go_wp2_with fail
            go_roundw
            case rel => exact ⟨3, A, len, c, by omega, by omega, rfl, rfl, hO, hB, hT, by omega⟩
            case measure => simp [intOf]
        · have hO : Ow wr w.heap.size A len c ([3, UInt8.ofNat k.toNat] ++ (numsL m a b n 3 ++ textsL q s t u 3)) := hO
          rw [HL.out] at hO
          go_wp2_with fail
          go_ret
          exact ⟨A, len, c, rfl, hO, hB⟩
end Go.Proofs.YtfepinnfhcjopaaGreatDoor
end
section
namespace Go.Proofs.YtfepinnfhcjopaaGreatDoor
open Go.RowKit Go.Nst
set_option maxRecDepth 100000
set_option linter.unusedVariables false
set_option linter.unusedSimpArgs false

/-- append of bytes onto a row of bytes of the call's own, of which the old slice is still read; nothing but this row is written -/
theorem wpList_appKG {P : Program} (w : World) {T : TypeId} (hI : Info P T 5 (.int .u8 0) 1 1) {ops : Array Oper} {rest : List Oper} {o : Oper} {a : Act} {Q : Exit → Act → World → Prop} {s x : Operand} (hgd : Region.wanted o (yielded ops a.tmps) = true)
    (ho : o.op = .call { callee := .builtin .append, args := #[s, x], argTypes := #[T, T] })
    {base : Nat} {A0 : Option Addr} {n c0 : Nat} {l0 : List UInt8} (hs : a.eval s = .slice A0 n c0) (hown : Ow w base A0 n c0 l0)
    {A : Option Addr} {m c : Nat} {l : List UInt8} (hx : a.eval x = .slice A m c) (hr : Bs w A m l)
    (k : Nat) (lr : List UInt8) (hk : n + m = k) (hlr : l0 ++ l = lr)
    (hbytes : n + m ≤ 140737488355328) (hbase : base ≤ w.heap.size)
    (h : ∀ A' c' w', Ow w' base A' k c' lr → Below base w w' → Bs w' A0 n l0 → w.grownBy w' (Value.slice A0 n c0).ownBlock → wpList P ops Q rest (a.put o.dst (.slice A' k c')) w') : wpList P ops Q (o :: rest) a w := by
  subst hk
  subst hlr
  refine wpList_step fun K hK => ?_
  rw [if_pos hgd]
  obtain ⟨i, hi, hz, hsize, hby⟩ := hI.info
  obtain ⟨v', w', hrun, h2, h3, _, h5⟩ := run_append_keep (P := P) w base T o.type 5 i (.int .u8 0) 1 1 hI.slice hi hz hsize hby hI.cells hI.pos A0 n c0 _ hown _ A m c _ hr (bv_one _) (by unfold maxLen; omega) (by omega) hbase
  have hv : ∃ A' c', v' = .slice A' (n + m) c' := by
    rcases h2.2 with ⟨e, e2⟩ | ⟨g, cap, cur, e, _⟩
    · exact ⟨none, 0, by rw [e, e2]⟩
    · exact ⟨_, _, e⟩
  obtain ⟨A', c', rfl⟩ := hv
  unfold Oper.wp execOp
  simp only [ho, resolve, invoke, builtin, Sem.run_bind, Sem.run_pure, Result.andThen_ok, List.map_toArray, List.map_cons, List.map_nil, hs, hx, hrun]
  exact hK _ _ (h A' c' w' (by rw [← bv_append] at h2; exact h2) ((Below.refl _ _).grown h3 hbase (fun k hk => (hown.blk k hk).1)) h5 h3)

def largeB (s t u : List UInt8) : Bool := decide (1000 < s.length) || (decide (1000 < t.length) || decide (1000 < u.length))
theorem lv15_ok : Ev.ok ⟨9, 5, 0, 1, [], [], []⟩ = true := by decide +kernel
theorem lv15_code : codeL ⟨9, 5, 0, 1, [], [], []⟩ = [3, 9, 10, 2] := by decide +kernel
theorem lv15_get : getE [3, 9, 10, 2] = some ⟨9, 5, 0, 1, [], [], []⟩ := by decide +kernel
theorem lv15_none : getE [3, 9, 10, 2, 0] = none := by decide +kernel
theorem lv15_no : Ev.ok ⟨0, 0, 0, 0, [], [], []⟩ = false := by decide +kernel
end Go.Proofs.YtfepinnfhcjopaaGreatDoor
end
