/-
  Queries' texts and what they lean on, part 23: only what the claims need.
-/
import Derived.Test.YtjjlmkleidbmhaaGreatDoorZ20
section
namespace Go.Proofs.YtjjlmkleidbmhaaGreatDoor
open Go.ChangeShapes Go.WideShapes Go.ChangeAt Go.Deep
open Go.RowKit Go.Nst
set_option maxRecDepth 100000
set_option linter.unusedVariables false
set_option linter.unusedSimpArgs false

set_option maxHeartbeats 1000000 in
theorem many26_any (o : Int) (l : List Qy) (A : Option Addr) (n c : Nat) (w : World) (S : Nat → Prop) (ho : i64P o) (hk : QsAt w S A n l) (hn : n ≤ c ∧ c ≤ 9223372036854775807) (h0 : l ≠ []) :
    Calls Tryz.prog 39 #[.int .i64 o, .slice A n c] w (RetQ w S (svl o l)) := by
  have hln := hk.1
  have HKK := Lib.hid hk
  have hx := Blk.new w 25 #[.int .i64 0, .int .i64 0, .string ⟨#[]⟩, .slice none 0 0]
  have b1 := bel_alloc (Below.refl w.heap.size w) (.cells #[.int .i64 0, .int .i64 0, .string ⟨#[]⟩, .slice none 0 0] 25)
  have hk1 := (hk.wide (S' := fun b => S b ∧ b < w.heap.size) (fun b hb hlt => ⟨hb, hlt⟩)).bel b1
  have hzf := hx.frozen
  have z0 := hx.cell 0
  have z1 := hx.cell 1
  have z2 := hx.cell 2
  have z3 := hx.cell 3
  simp at z0 z1 z2 z3
  obtain ⟨hn1, hn2⟩ := hn
  by_cases h1 : n = 1
  · subst h1
    obtain ⟨q, rfl⟩ : ∃ q, l = [q] := by
      match l, hln with
      | [q], _ => exact ⟨q, rfl⟩
    obtain ⟨q', B, c', b, off, HG, rfl, hS, hbs, HQ, g1, g2, g3, g4, g5, f0, f1, f2, f3⟩ := hk1.at (show 0 < 1 by omega)
    have : q' = q := by have := HG.out; simpa using this.symm
    subst this
    simp only [Nat.zero_mul, Nat.add_zero] at f0 f1 f2 f3
    have HNF := Lib.hid HQ.out
    clear hk hk1 HG hx b1 hS h0 HKK HQ
    go_enter Tryz.func39, Tryz.ntmps39
    go_wp2_with fail
    have y := Blk.new w 25 #[.int .i64 q'.op, .int .i64 q'.n, .string ⟨q'.s.toArray⟩, .slice B q'.kids.length c']
    have y0 := y.cell 0
    have y1 := y.cell 1
    have y2 := y.cell 2
    have y3 := y.cell 3
    simp at y0 y1 y2 y3
    exact bodyPost_ret (v := .agg #[.int .i64 q'.op, .int .i64 q'.n, .string ⟨q'.s.toArray⟩, .slice B q'.kids.length c']) (by simp [results, Tryz.results39, go_sem, y0, y1, y2, y3]) rfl
      ⟨_, rfl, HNF.out.keep (fun b' hb _ => ((bel_alloc (Below.refl w.heap.size w) _).block b' hb.2).trans ((bel_alloc (Below.refl w.heap.size w) _).block b' hb.2).symm) (by simp) (fun b hb _ => Or.inl hb.1), bel_alloc (Below.refl _ _) _⟩
  · have h2 : 2 ≤ l.length := by
      have : l.length ≠ 0 := fun e => h0 (List.eq_nil_of_length_eq_zero e)
      omega
    have d1 : ((n : Int) == 1) = false := by rw [beq_eq_false_iff_ne]; omega
    have d2 : ¬ n = 1 := h1
    have HV : Hid (svl o l = ⟨o, 0, [], l⟩) := Lib.hid (svl_many o h2)
    clear hk hk1 hx b1 h0 h1 h2
    go_enter Tryz.func39, Tryz.ntmps39
    go_wp2_with fail
    have y := Blk.new w 25 #[.int .i64 o, .int .i64 0, .string ⟨#[]⟩, .slice A n c]
    have y0 := y.cell 0
    have y1 := y.cell 1
    have y2 := y.cell 2
    have y3 := y.cell 3
    simp at y0 y1 y2 y3
    refine bodyPost_ret (v := .agg #[.int .i64 o, .int .i64 0, .string ⟨#[]⟩, .slice A n c]) (by simp [results, Tryz.results39, go_sem, y0, y1, y2, y3]) rfl
      ⟨_, rfl, ?_, bel_alloc (Below.refl _ _) _⟩
    rw [HV.out]
    have HK1 := (HKK.out.wide (S' := fun b => S b ∧ b < w.heap.size) (fun b hb hlt => ⟨hb, hlt⟩)).bel (bel_alloc (Below.refl w.heap.size w) (.cells #[.int .i64 o, .int .i64 0, .string ⟨#[]⟩, .slice A n c] 25))
    exact (QAt.make (s := []) ho (i64P_lit (z := 0) (by omega)) (by simp) ⟨hn1, hn2⟩ HK1).wide (fun b hb _ => .inl hb.1)
/-- what the parser's state says of what should come -/
def Fit (r : Rs) (q : Qy) (rest : List Pt) (en bad : Int) : Prop := (bad = -1 ∧ r = .ok q rest) ∨ (0 ≤ bad ∧ ∃ r0, r = .bad r0 ∧ bad = posD en r0)
/-- what comes of the document's methods -/
def RetPd (w : World) (g : Nat) (S : Nat → Prop) (l : List Pt) (en : Int) (A : Option Addr) (n c : Nat) (r : Rs) (e : Ending) (w' : World) : Prop :=
  ∃ vs q i' bad, e = .returned (.agg vs) ∧ QAt w' (fun b => w.heap.size ≤ b) vs q ∧ PsD w' g S l i' en bad A n c ∧ w.grownBy w' (some g) ∧ Fit r q (l.drop i') en bad
def MethD (f : FuncId) (h : List Pt → Rs) (m : Nat) : Prop := ∀ (l : List Pt) (i : Nat) (w : World) (g : Nat) (S : Nat → Prop) (en : Int) (A : Option Addr) (n c : Nat), (l.drop i).length ≤ m → PsD w g S l i en (-1) A n c → Calls Tryz.prog f #[.pointer (some ⟨g, 0, none⟩)] w (RetPd w g S l en A n c (h (l.drop i)))
/-- how much a parser has still to do -/
def leftD (w : World) (g : Nat) : Nat := match w.cell? ⟨g, 0, none⟩, w.cell? ⟨g, 1, none⟩, w.cell? ⟨g, 3, none⟩ with
  | some (.slice _ n _), some (.int _ i), some (.int _ b) => if b < 0 then n - i.toNat + 1 else 0
  | _, _, _ => 0
theorem PsD.left {w : World} {g : Nat} {S : Nat → Prop} {l : List Pt} {i : Nat} {e bad : Int} {A : Option Addr} {n c : Nat} (h : PsD w g S l i e bad A n c) : leftD w g = if bad < 0 then (l.drop i).length + 1 else 0 := by
  have q0 := h.blk.cell 0
  have q1 := h.blk.cell 1
  have q3 := h.blk.cell 3
  simp at q0 q1 q3
  have hl := h.row.len
  unfold leftD
  rw [q0, q1, q3]
  simp [hl]
/-- the loop's relation: what is still to come -/
def FitG (F : Rs) (G : Nat → List Pt → Rs) (rest : List Pt) (en bad : Int) (m n2 : Nat) : Prop :=
  (bad = -1 ∧ n2 + rest.length ≤ m + 1 ∧ ∃ f, F = G f rest ∧ rest.length ≤ f) ∨ (0 ≤ bad ∧ ∃ r0, F = .bad r0 ∧ bad = posD en r0)
set_option maxHeartbeats 4000000 in
theorem rall26_any (h : List Pt → Rs) (m : Nat) (hm : m ≤ 600) (he : Eats h) (H : MethD 56 h m) : MethD 37 (allF h) m := by
  intro l i w g S en A n c hl hp
  have X0 := Lib.hid (Blk.new w 25 #[.int .i64 0, .int .i64 0, .string ⟨#[]⟩, .slice none 0 0])
  have B0 := Lib.hid (bel_alloc (Below.refl w.heap.size w) (.cells #[.int .i64 0, .int .i64 0, .string ⟨#[]⟩, .slice none 0 0] 25))
  have hgl := hp.blk.lt
  have HOF := Lib.hid hp.off
  have HP0 := Lib.hid ((hp.wideS (S' := lowS S w) (fun b hb hlt => ⟨hb, hlt⟩) (fun hh => hp.off hh.1)).grown B0.out)
  have HC := Lib.hid (H l i _ g _ en A n c hl HP0.out)
  have HF : Hid (allF h (l.drop i) = match h (l.drop i) with | .bad r => .bad r | .ok q r => allG h r.length [q] r) := Lib.hid rfl
  have HE := Lib.hid (he (l.drop i))
  have HH := Lib.hid H
  have HEE := Lib.hid he
  clear hp HP0 H he
  obtain ⟨F, hF⟩ : ∃ F, F = allF h (l.drop i) := ⟨_, rfl⟩
  rw [← hF] at HF ⊢
  clear hF
  obtain ⟨r0, hr0⟩ : ∃ r0, r0 = h (l.drop i) := ⟨_, rfl⟩
  rw [← hr0] at HC HF HE
  clear hr0
  have HLL := Lib.hid hl
  clear hl
  go_enter Tryz.func37, Tryz.ntmps37
  go_wp2_with fail
  (with_reducible refine (HC.out).mono ?_)
  rintro _ w1 ⟨vs, q, i1, bad1, rfl, hq, hp1, hg1, hfit⟩
  have HQ := Lib.hid hq
  obtain ⟨QA, qc, rfl, -, -, -, -, -, -⟩ := hq.open_
  simp only [qV] at HQ ⊢
  have HP1 := Lib.hid hp1
  have hg10 := hg1.size
  have HG1 := Lib.hid hg1
  have HX1 := Lib.hid (X0.out.grown hg1 (by simp; omega))
  have HFI : Hid (FitG F (fun f rest => allG h f [q] rest) (l.drop i1) en bad1 m 1) := Lib.hid (by
    rcases hfit with ⟨e1, e2⟩ | ⟨e1, r', e2, e3⟩
    · refine .inl ⟨e1, ?_, (l.drop i1).length, ?_, Nat.le_refl _⟩
      · have := HE.out q _ e2
        have := HLL.out
        omega
      · rw [HF.out, e2]
    · exact .inr ⟨e1, r', by rw [HF.out, e2], e3⟩)
  clear hq hp1 hg1 hfit
  go_wp2_with fail
  go_loopw [3] (fun v wr => ∃ (A2 : Option Addr) (n2 c2 : Nat) (acc : List Qy) (i' : Nat) (bad : Int), v = .slice A2 n2 c2 ∧ Hid (Oq wr (w.heap.size + 1) (hiS w) A2 n2 c2 acc) ∧ Hid (PsD wr g (lowS S w) l i' en bad A n c) ∧ Hid (w.grownBy wr (some g)) ∧ Hid (Blk wr w.heap.size 25 #[.int .i64 0, .int .i64 0, .string ⟨#[]⟩, .slice none 0 0]) ∧ Hid (FitG F (fun f rest => allG h f acc rest) (l.drop i') en bad m n2) ∧ 0 < n2 ∧ n2 ≤ m + 1) (fun _ wr => leftD wr g)
  case atStart =>
    have hr := HP1.out.row.len
    refine ⟨_, _, _, [q], i1, bad1, rfl, Lib.hid (Oq.lit ((HQ.out).wide (S' := hiS w) (fun b hb _ => by simp at hb; show w.heap.size < b; omega)) (by simp at hg10; exact hg10) rfl), Lib.hid (HP1.out.grown (bel_alloc (Below.refl _ _) _)), Lib.hid (grown_bel (grown_trans (grown_of B0.out) HG1.out) (bel_alloc (Below.refl w1.heap.size w1) _) (by simp at hg10; omega)), Lib.hid (HX1.out.alloc _), HFI, by omega, by omega⟩
  case round =>
    obtain ⟨A2, n2, c2, acc, i', bad, rfl, HO, HP, HG, HX, HFF, hn2, hnm⟩ := hrel
    have hcp1 := HO.out.cap.1
    have hcp2 := HO.out.cap.2
    obtain ⟨p0, p1, p2, p3, p4, p5⟩ := psd_facts HP.out
    have HN := Lib.hid (peek26_any wr g _ l i' en bad A n c HP.out)
    have HQS := Lib.hid (HO.out.qs (S' := hiS w) (fun b hb _ => hb) (fun b hb _ => hb))
    have HNE : Hid (acc ≠ []) := Lib.hid (by rintro rfl; have := HO.out.len; simp at this; omega)
    have HMN := Lib.hid (fun W (hk : QsAt W (hiS w) A2 n2 acc) => many26_any 3 acc A2 n2 c2 W (hiS w) (i64P_lit (by omega)) hk ⟨hcp1, hcp2⟩ HNE.out)
    rcases HFF.out with ⟨rfl, hs2, f, hF, hf⟩ | ⟨hb0, r1, hF1, hF2⟩
    case inr =>
      have HFT : Hid (Fit F (svl 3 acc) (l.drop i') en bad) := Lib.hid (.inr ⟨hb0, r1, hF1, hF2⟩)
      have d0 : decide (bad < 0) = false := by simpa using hb0
      clear HFF hF1 hF2
      go_wp2_with fail
      (with_reducible refine (HMN.out _ HQS.out).mono ?_)
      rintro _ w2 ⟨vs, rfl, hq2, hb2⟩
      obtain ⟨QB, qd, rfl, -, -, -, -, -, -⟩ := hq2.open_
      simp only [qV] at hq2 ⊢
      have hx2 := HX.out.below hb2 HX.out.lt
      obtain ⟨k0, k1, k2, k3, k4, k5⟩ := res_facts hx2
      have hgs := hb2.size
      have HX2 := Lib.hid hx2
      have HQ2 := Lib.hid hq2
      have HB2 := Lib.hid hb2
      clear hq2 hb2 hx2
      go_wp2_with fail
      generalize hsv : svl 3 acc = sv at *
      have y := set4 HX2.out (.int .i64 sv.op) (.int .i64 sv.n) (.string ⟨sv.s.toArray⟩) (.slice QB sv.kids.length qd)
      have y0 := y.cell 0
      have y1 := y.cell 1
      have y2 := y.cell 2
      have y3 := y.cell 3
      simp at y0 y1 y2 y3
      try simp only [Exit.inBlock, Exit.then]
      refine bodyPost_ret (v := .agg #[.int .i64 sv.op, .int .i64 sv.n, .string ⟨sv.s.toArray⟩, .slice QB sv.kids.length qd]) (by simp [results, Tryz.results37, go_sem, y0, y1, y2, y3]) rfl ?_
      exact ⟨_, sv, i', _, rfl, (HQ2.out.set4 (g := w.heap.size) (by have := HX.out.lt; rintro (h | h); exact Nat.lt_irrefl _ h; omega) _ _ _ _).wide (fun b hb _ => by have := HG.out.size; rcases hb with h | h; exact Nat.le_of_lt h; omega), (((HP.out.grown HB2.out).keepR (grown4 _ w.heap.size _ _ _ _) (by omega) (fun h => Nat.lt_irrefl _ h.2))).wideS (fun b hb _ => hb.1) HOF.out, grown_set4 (grown_bel HG.out HB2.out HG.out.size) (.inr (Nat.le_refl _)) _ _ _ _, HFT.out⟩
    case inl =>
      have HFG := Lib.hid hF
      have HPN := Lib.hid HP.out.left
      clear HFF hF
      by_cases hst : stopA (l.drop i') = true
      · have HFT : Hid (Fit F (svl 3 acc) (l.drop i') en (-1)) := Lib.hid (.inl ⟨rfl, HFG.out.trans (allG_stop hst)⟩)
        obtain ⟨x, hx⟩ : ∃ x, x = nxt (l.drop i') := ⟨_, rfl⟩
        have hcs := stopA_cases hst
        have HXN := Lib.hid hx.symm
        rw [← hx] at HN hcs
        clear hx hst
        rcases hcs with rfl | rfl | rfl
        · go_wp2_with fail
          (with_reducible refine (HN.out).mono ?_)
          rintro _ wq ⟨rfl, hw2⟩
          have HQS := Lib.hid (HQS.out.bel hw2)
          have HO := Lib.hid (HO.out.bel hw2)
          have HG := Lib.hid (grown_bel HG.out hw2 HG.out.size)
          have HX := Lib.hid (HX.out.below hw2 HX.out.lt)
          have HP := Lib.hid (HP.out.grown hw2)
          have HN := Lib.hid (peek26_any wq g _ l i' en (-1) A n c HP.out)
          rw [HXN.out] at HN
          obtain ⟨p0, p1, p2, p3, p4, p5⟩ := psd_facts HP.out
          clear hw2
          go_wp2_with fail
          (with_reducible refine (HMN.out _ HQS.out).mono ?_)
          rintro _ w2 ⟨vs, rfl, hq2, hb2⟩
          obtain ⟨QB, qd, rfl, -, -, -, -, -, -⟩ := hq2.open_
          simp only [qV] at hq2 ⊢
          have hx2 := HX.out.below hb2 HX.out.lt
          obtain ⟨k0, k1, k2, k3, k4, k5⟩ := res_facts hx2
          have hgs := hb2.size
          have HX2 := Lib.hid hx2
          have HQ2 := Lib.hid hq2
          have HB2 := Lib.hid hb2
          clear hq2 hb2 hx2
          go_wp2_with fail
          generalize hsv : svl 3 acc = sv at *
          have y := set4 HX2.out (.int .i64 sv.op) (.int .i64 sv.n) (.string ⟨sv.s.toArray⟩) (.slice QB sv.kids.length qd)
          have y0 := y.cell 0
          have y1 := y.cell 1
          have y2 := y.cell 2
          have y3 := y.cell 3
          simp at y0 y1 y2 y3
          try simp only [Exit.inBlock, Exit.then]
          refine bodyPost_ret (v := .agg #[.int .i64 sv.op, .int .i64 sv.n, .string ⟨sv.s.toArray⟩, .slice QB sv.kids.length qd]) (by simp [results, Tryz.results37, go_sem, y0, y1, y2, y3]) rfl ?_
          exact ⟨_, sv, i', _, rfl, (HQ2.out.set4 (g := w.heap.size) (by have := HX.out.lt; rintro (h | h); exact Nat.lt_irrefl _ h; omega) _ _ _ _).wide (fun b hb _ => by have := HG.out.size; rcases hb with h | h; exact Nat.le_of_lt h; omega), (((HP.out.grown HB2.out).keepR (grown4 _ w.heap.size _ _ _ _) (by omega) (fun h => Nat.lt_irrefl _ h.2))).wideS (fun b hb _ => hb.1) HOF.out, grown_set4 (grown_bel HG.out HB2.out HG.out.size) (.inr (Nat.le_refl _)) _ _ _ _, HFT.out⟩
        · go_wp2_with fail
          (with_reducible refine (HN.out).mono ?_)
          rintro _ wq ⟨rfl, hw2⟩
          have HQS := Lib.hid (HQS.out.bel hw2)
          have HO := Lib.hid (HO.out.bel hw2)
          have HG := Lib.hid (grown_bel HG.out hw2 HG.out.size)
          have HX := Lib.hid (HX.out.below hw2 HX.out.lt)
          have HP := Lib.hid (HP.out.grown hw2)
          have HN := Lib.hid (peek26_any wq g _ l i' en (-1) A n c HP.out)
          rw [HXN.out] at HN
          obtain ⟨p0, p1, p2, p3, p4, p5⟩ := psd_facts HP.out
          clear hw2
          go_wp2_with fail
          (with_reducible refine (HN.out).mono ?_)
          rintro _ wq ⟨rfl, hw2⟩
          have HQS := Lib.hid (HQS.out.bel hw2)
          have HO := Lib.hid (HO.out.bel hw2)
          have HG := Lib.hid (grown_bel HG.out hw2 HG.out.size)
          have HX := Lib.hid (HX.out.below hw2 HX.out.lt)
          have HP := Lib.hid (HP.out.grown hw2)
          have HN := Lib.hid (peek26_any wq g _ l i' en (-1) A n c HP.out)
          rw [HXN.out] at HN
          obtain ⟨p0, p1, p2, p3, p4, p5⟩ := psd_facts HP.out
          clear hw2
          go_wp2_with fail
          (with_reducible refine (HMN.out _ HQS.out).mono ?_)
          rintro _ w2 ⟨vs, rfl, hq2, hb2⟩
          obtain ⟨QB, qd, rfl, -, -, -, -, -, -⟩ := hq2.open_
          simp only [qV] at hq2 ⊢
          have hx2 := HX.out.below hb2 HX.out.lt
          obtain ⟨k0, k1, k2, k3, k4, k5⟩ := res_facts hx2
          have hgs := hb2.size
          have HX2 := Lib.hid hx2
          have HQ2 := Lib.hid hq2
          have HB2 := Lib.hid hb2
          clear hq2 hb2 hx2
          go_wp2_with fail
          generalize hsv : svl 3 acc = sv at *
          have y := set4 HX2.out (.int .i64 sv.op) (.int .i64 sv.n) (.string ⟨sv.s.toArray⟩) (.slice QB sv.kids.length qd)
          have y0 := y.cell 0
          have y1 := y.cell 1
          have y2 := y.cell 2
          have y3 := y.cell 3
          simp at y0 y1 y2 y3
          try simp only [Exit.inBlock, Exit.then]
          refine bodyPost_ret (v := .agg #[.int .i64 sv.op, .int .i64 sv.n, .string ⟨sv.s.toArray⟩, .slice QB sv.kids.length qd]) (by simp [results, Tryz.results37, go_sem, y0, y1, y2, y3]) rfl ?_
          exact ⟨_, sv, i', _, rfl, (HQ2.out.set4 (g := w.heap.size) (by have := HX.out.lt; rintro (h | h); exact Nat.lt_irrefl _ h; omega) _ _ _ _).wide (fun b hb _ => by have := HG.out.size; rcases hb with h | h; exact Nat.le_of_lt h; omega), (((HP.out.grown HB2.out).keepR (grown4 _ w.heap.size _ _ _ _) (by omega) (fun h => Nat.lt_irrefl _ h.2))).wideS (fun b hb _ => hb.1) HOF.out, grown_set4 (grown_bel HG.out HB2.out HG.out.size) (.inr (Nat.le_refl _)) _ _ _ _, HFT.out⟩
        · go_wp2_with fail
          (with_reducible refine (HN.out).mono ?_)
          rintro _ wq ⟨rfl, hw2⟩
          have HQS := Lib.hid (HQS.out.bel hw2)
          have HO := Lib.hid (HO.out.bel hw2)
          have HG := Lib.hid (grown_bel HG.out hw2 HG.out.size)
          have HX := Lib.hid (HX.out.below hw2 HX.out.lt)
          have HP := Lib.hid (HP.out.grown hw2)
          have HN := Lib.hid (peek26_any wq g _ l i' en (-1) A n c HP.out)
          rw [HXN.out] at HN
          obtain ⟨p0, p1, p2, p3, p4, p5⟩ := psd_facts HP.out
          clear hw2
          go_wp2_with fail
          (with_reducible refine (HN.out).mono ?_)
          rintro _ wq ⟨rfl, hw2⟩
          have HQS := Lib.hid (HQS.out.bel hw2)
          have HO := Lib.hid (HO.out.bel hw2)
          have HG := Lib.hid (grown_bel HG.out hw2 HG.out.size)
          have HX := Lib.hid (HX.out.below hw2 HX.out.lt)
          have HP := Lib.hid (HP.out.grown hw2)
          have HN := Lib.hid (peek26_any wq g _ l i' en (-1) A n c HP.out)
          rw [HXN.out] at HN
          obtain ⟨p0, p1, p2, p3, p4, p5⟩ := psd_facts HP.out
          clear hw2
          go_wp2_with fail
          (with_reducible refine (HN.out).mono ?_)
          rintro _ wq ⟨rfl, hw2⟩
          have HQS := Lib.hid (HQS.out.bel hw2)
          have HO := Lib.hid (HO.out.bel hw2)
          have HG := Lib.hid (grown_bel HG.out hw2 HG.out.size)
          have HX := Lib.hid (HX.out.below hw2 HX.out.lt)
          have HP := Lib.hid (HP.out.grown hw2)
          have HN := Lib.hid (peek26_any wq g _ l i' en (-1) A n c HP.out)
          rw [HXN.out] at HN
          obtain ⟨p0, p1, p2, p3, p4, p5⟩ := psd_facts HP.out
          clear hw2
          go_wp2_with fail
          (with_reducible refine (HMN.out _ HQS.out).mono ?_)
          rintro _ w2 ⟨vs, rfl, hq2, hb2⟩
          obtain ⟨QB, qd, rfl, -, -, -, -, -, -⟩ := hq2.open_
          simp only [qV] at hq2 ⊢
          have hx2 := HX.out.below hb2 HX.out.lt
          obtain ⟨k0, k1, k2, k3, k4, k5⟩ := res_facts hx2
          have hgs := hb2.size
          have HX2 := Lib.hid hx2
          have HQ2 := Lib.hid hq2
          have HB2 := Lib.hid hb2
          clear hq2 hb2 hx2
          go_wp2_with fail
          generalize hsv : svl 3 acc = sv at *
          have y := set4 HX2.out (.int .i64 sv.op) (.int .i64 sv.n) (.string ⟨sv.s.toArray⟩) (.slice QB sv.kids.length qd)
          have y0 := y.cell 0
          have y1 := y.cell 1
          have y2 := y.cell 2
          have y3 := y.cell 3
          simp at y0 y1 y2 y3
          try simp only [Exit.inBlock, Exit.then]
          refine bodyPost_ret (v := .agg #[.int .i64 sv.op, .int .i64 sv.n, .string ⟨sv.s.toArray⟩, .slice QB sv.kids.length qd]) (by simp [results, Tryz.results37, go_sem, y0, y1, y2, y3]) rfl ?_
          exact ⟨_, sv, i', _, rfl, (HQ2.out.set4 (g := w.heap.size) (by have := HX.out.lt; rintro (h | h); exact Nat.lt_irrefl _ h; omega) _ _ _ _).wide (fun b hb _ => by have := HG.out.size; rcases hb with h | h; exact Nat.le_of_lt h; omega), (((HP.out.grown HB2.out).keepR (grown4 _ w.heap.size _ _ _ _) (by omega) (fun h => Nat.lt_irrefl _ h.2))).wideS (fun b hb _ => hb.1) HOF.out, grown_set4 (grown_bel HG.out HB2.out HG.out.size) (.inr (Nat.le_refl _)) _ _ _ _, HFT.out⟩
      · obtain ⟨e1, e2, e3⟩ := stopA_not hst
        have hl0 : 0 < (l.drop i').length := by
          rcases Nat.eq_zero_or_pos (l.drop i').length with h0 | h0
          · rw [List.eq_nil_of_length_eq_zero h0] at hst
            exact absurd rfl hst
          · exact h0
        obtain ⟨f, rfl⟩ : ∃ k, f = k + 1 := ⟨f - 1, by omega⟩
        have hi1 := HP.out.idx.1
        have hi2 := HP.out.idx.2
        have hln := HP.out.row.len
        have hlt : i' < n := by rw [List.length_drop] at hl0; omega
        have HSTEP : Hid (F = match h (if nxt (l.drop i') == tAnd then l.drop (i' + 1) else l.drop i') with | .bad r => .bad r | .ok q r => allG h f (acc ++ [q]) r) := Lib.hid (by
          rw [HFG.out]
          simp only [allG]
          rw [if_neg hst, List.tail_drop]
          rfl)
        have HLP := Lib.hid (show (l.drop i').length ≤ m by omega)
        have HLS : Hid ((l.drop (i' + 1)).length + 1 = (l.drop i').length) := Lib.hid (by rw [List.length_drop, List.length_drop]; omega)
        have HFL := Lib.hid hf
        have HNL := Lib.hid hs2
        clear hs2 hf hl0 hln hst HFG
        obtain ⟨x, hx⟩ : ∃ x, x = nxt (l.drop i') := ⟨_, rfl⟩
        have HXN := Lib.hid hx.symm
        rw [← hx] at HN e1 e2 e3 HSTEP
        clear hx
        go_wp2_with fail
        (with_reducible refine (HN.out).mono ?_)
        rintro _ wq ⟨rfl, hw2⟩
        have HQS := Lib.hid (HQS.out.bel hw2)
        have HO := Lib.hid (HO.out.bel hw2)
        have HG := Lib.hid (grown_bel HG.out hw2 HG.out.size)
        have HX := Lib.hid (HX.out.below hw2 HX.out.lt)
        have HP := Lib.hid (HP.out.grown hw2)
        have HN := Lib.hid (peek26_any wq g _ l i' en (-1) A n c HP.out)
        rw [HXN.out] at HN
        obtain ⟨p0, p1, p2, p3, p4, p5⟩ := psd_facts HP.out
        clear hw2
        go_wp2_with fail
        (with_reducible refine (HN.out).mono ?_)
        rintro _ wq ⟨rfl, hw2⟩
        have HQS := Lib.hid (HQS.out.bel hw2)
        have HO := Lib.hid (HO.out.bel hw2)
        have HG := Lib.hid (grown_bel HG.out hw2 HG.out.size)
        have HX := Lib.hid (HX.out.below hw2 HX.out.lt)
        have HP := Lib.hid (HP.out.grown hw2)
        have HN := Lib.hid (peek26_any wq g _ l i' en (-1) A n c HP.out)
        rw [HXN.out] at HN
        obtain ⟨p0, p1, p2, p3, p4, p5⟩ := psd_facts HP.out
        clear hw2
        go_wp2_with fail
        (with_reducible refine (HN.out).mono ?_)
        rintro _ wq ⟨rfl, hw2⟩
        have HQS := Lib.hid (HQS.out.bel hw2)
        have HO := Lib.hid (HO.out.bel hw2)
        have HG := Lib.hid (grown_bel HG.out hw2 HG.out.size)
        have HX := Lib.hid (HX.out.below hw2 HX.out.lt)
        have HP := Lib.hid (HP.out.grown hw2)
        have HN := Lib.hid (peek26_any wq g _ l i' en (-1) A n c HP.out)
        rw [HXN.out] at HN
        obtain ⟨p0, p1, p2, p3, p4, p5⟩ := psd_facts HP.out
        clear hw2
        go_wp2_with fail
        (with_reducible refine (HN.out).mono ?_)
        rintro _ wq ⟨rfl, hw2⟩
        have HQS := Lib.hid (HQS.out.bel hw2)
        have HO := Lib.hid (HO.out.bel hw2)
        have HG := Lib.hid (grown_bel HG.out hw2 HG.out.size)
        have HX := Lib.hid (HX.out.below hw2 HX.out.lt)
        have HP := Lib.hid (HP.out.grown hw2)
        have HN := Lib.hid (peek26_any wq g _ l i' en (-1) A n c HP.out)
        rw [HXN.out] at HN
        obtain ⟨p0, p1, p2, p3, p4, p5⟩ := psd_facts HP.out
        clear hw2
        cases hand : (x == tAnd) with
        | false =>
          have HPX := HP
          have HXX := HX
          have HOX := HO
          have HGX := HG
          have hxl := HX.out.lt
          have hG0 := HG.out.size
          have HC3 := Lib.hid (HH.out l i' wq g _ en A n c HLP.out HPX.out)
          have HE3 := Lib.hid (HEE.out (l.drop i'))
          go_wp2_with fail
          (with_reducible refine (HC3.out).mono ?_)
          rintro _ w4 ⟨vs, q3, i4, bad4, rfl, hq4, hp4, hg4, hfit4⟩
          have HQ4 := Lib.hid hq4
          obtain ⟨QB, qd, rfl, -, -, -, -, -, -⟩ := hq4.open_
          simp only [qV] at HQ4 ⊢
          have hg40 := hg4.size
          try simp at hg40
          have HP4 := Lib.hid hp4
          have HG4 := Lib.hid hg4
          have HX4 := Lib.hid (HXX.out.grown hg4 (by simp; omega))
          have HF4 := Lib.hid hfit4
          have ho4 := (HOX.out.grown hg4 (by simp only [hiS]; omega) (by omega)).bel (bel_alloc (Below.refl w4.heap.size w4) (.cells #[.int .i64 q3.op, .int .i64 q3.n, .string ⟨q3.s.toArray⟩, .slice QB q3.kids.length qd] 25))
          have hol := HOX.out.lt
          have hr4 : QsR (w4.alloc (.cells #[.int .i64 q3.op, .int .i64 q3.n, .string ⟨q3.s.toArray⟩, .slice QB q3.kids.length qd] 25)) (fun b => hiS w b ∧ some b ≠ (Value.slice A2 n2 c2).ownBlock) (some ⟨w4.heap.size, 0, none⟩) 1 [q3] :=
            QAt.lit (HQ4.out.wide (fun b hb hlt => ⟨by show w.heap.size < b; (try simp at hb); omega, fun he => by have := (hol b he.symm).2; (try simp at hb); (try simp at this); omega⟩))
          have hba : w.heap.size + 1 ≤ (w4.alloc (.cells #[.int .i64 q3.op, .int .i64 q3.n, .string ⟨q3.s.toArray⟩, .slice QB q3.kids.length qd] 25)).heap.size := by simp; omega
          clear hq4 hp4 hg4 hol hfit4
          go_wp2_with (at_builtin; go_loud (refine wpList_appQ rfl rfl rfl ho4 rfl hr4 (by omega) hba ?_; intro A7 c7 w7 ho7 hb7; have HO7 := Lib.hid ho7; have HB7 := Lib.hid hb7; clear ho7 hb7))
          have HPA := Lib.hid (HP4.out.grown (bel_alloc (Below.refl w4.heap.size w4) (.cells #[.int .i64 q3.op, .int .i64 q3.n, .string ⟨q3.s.toArray⟩, .slice QB q3.kids.length qd] 25)))
          have HP7 := Lib.hid (HPA.out.belB HB7.out (by omega) (fun b hb => by have := hb.2; omega))
          have HG7 := Lib.hid (grown_bel (grown_bel (grown_trans HGX.out HG4.out) (bel_alloc (Below.refl w4.heap.size w4) (.cells #[.int .i64 q3.op, .int .i64 q3.n, .string ⟨q3.s.toArray⟩, .slice QB q3.kids.length qd] 25)) (by omega)) HB7.out (by omega))
          have HX7 := Lib.hid ((HX4.out.alloc (.cells #[.int .i64 q3.op, .int .i64 q3.n, .string ⟨q3.s.toArray⟩, .slice QB q3.kids.length qd] 25)).below HB7.out (by omega))
          have HFIT : Hid (FitG F (fun f rest => allG h f (acc ++ [q3]) rest) (l.drop i4) en bad4 m (n2 + 1) ∧ (bad4 < 0 → (l.drop i4).length < (l.drop i').length)) := Lib.hid (by
            have a1 := HFL.out
            have a2 := HNL.out
            have a3 := HLS.out
            rcases HF4.out with ⟨b1, b2⟩ | ⟨b1, r', b2, b3⟩
            · have b4 := HE3.out _ _ b2
              refine ⟨.inl ⟨b1, by omega, f, ?_, by omega⟩, fun _ => by omega⟩
              rw [HSTEP.out, if_neg (by rw [hand]; decide), b2]
            · exact ⟨.inr ⟨b1, r', by rw [HSTEP.out, if_neg (by rw [hand]; decide), b2], b3⟩, fun hh => by omega⟩)
          have HM : Hid (leftD w7 g < leftD wr g) := Lib.hid (by
            rw [HP7.out.left, HPN.out, if_pos (show (-1 : Int) < 0 by decide)]
            have := HFIT.out.2
            split
            · rename_i hh; have := this hh; omega
            · omega)
          go_roundw
          case rel => exact ⟨A7, n2 + 1, c7, acc ++ [q3], i4, bad4, rfl, HO7, HP7, HG7, HX7, Lib.hid HFIT.out.1, by omega, by have := HNL.out; have := HLS.out; omega⟩
          case measure => exact HM.out
        | true =>
          have HPX := Lib.hid (HP.out.setI (i' + 1) hlt)
          have hsg := only_setCell (p := ⟨g, 1, none⟩) (World.grownBy.refl wq (some g)) (.inl rfl) (.int .i64 ((i' + 1 : Nat) : Int))
          have HXX := Lib.hid (HX.out.grown hsg (by simp; omega))
          have hxl := HX.out.lt
          have hG0 := HG.out.size
          have HOX := Lib.hid (HO.out.grown hsg (by simp only [hiS]; omega) (by omega))
          have HGX := Lib.hid (grown_trans HG.out hsg)
          have HSG := Lib.hid hsg
          clear hsg
          rw [show ((i' + 1 : Nat) : Int) = (i' : Int) + 1 by omega] at HPX HXX HOX HGX
          have HC3 := Lib.hid (HH.out l (i' + 1) (wq.setCell ⟨g, 1, none⟩ (.int .i64 ((i' : Int) + 1))) g _ en A n c (by have := HLP.out; have := HLS.out; omega) HPX.out)
          have HE3 := Lib.hid (HEE.out (l.drop (i' + 1)))
          go_wp2_with fail
          (with_reducible refine (HC3.out).mono ?_)
          rintro _ w4 ⟨vs, q3, i4, bad4, rfl, hq4, hp4, hg4, hfit4⟩
          have HQ4 := Lib.hid hq4
          obtain ⟨QB, qd, rfl, -, -, -, -, -, -⟩ := hq4.open_
          simp only [qV] at HQ4 ⊢
          have hg40 := hg4.size
          try simp at hg40
          have HP4 := Lib.hid hp4
          have HG4 := Lib.hid hg4
          have HX4 := Lib.hid (HXX.out.grown hg4 (by simp; omega))
          have HF4 := Lib.hid hfit4
          have ho4 := (HOX.out.grown hg4 (by simp only [hiS]; omega) (by omega)).bel (bel_alloc (Below.refl w4.heap.size w4) (.cells #[.int .i64 q3.op, .int .i64 q3.n, .string ⟨q3.s.toArray⟩, .slice QB q3.kids.length qd] 25))
          have hol := HOX.out.lt
          have hr4 : QsR (w4.alloc (.cells #[.int .i64 q3.op, .int .i64 q3.n, .string ⟨q3.s.toArray⟩, .slice QB q3.kids.length qd] 25)) (fun b => hiS w b ∧ some b ≠ (Value.slice A2 n2 c2).ownBlock) (some ⟨w4.heap.size, 0, none⟩) 1 [q3] :=
            QAt.lit (HQ4.out.wide (fun b hb hlt => ⟨by show w.heap.size < b; (try simp at hb); omega, fun he => by have := (hol b he.symm).2; (try simp at hb); (try simp at this); omega⟩))
          have hba : w.heap.size + 1 ≤ (w4.alloc (.cells #[.int .i64 q3.op, .int .i64 q3.n, .string ⟨q3.s.toArray⟩, .slice QB q3.kids.length qd] 25)).heap.size := by simp; omega
          clear hq4 hp4 hg4 hol hfit4
          go_wp2_with (at_builtin; go_loud (refine wpList_appQ rfl rfl rfl ho4 rfl hr4 (by omega) hba ?_; intro A7 c7 w7 ho7 hb7; have HO7 := Lib.hid ho7; have HB7 := Lib.hid hb7; clear ho7 hb7))
          have HPA := Lib.hid (HP4.out.grown (bel_alloc (Below.refl w4.heap.size w4) (.cells #[.int .i64 q3.op, .int .i64 q3.n, .string ⟨q3.s.toArray⟩, .slice QB q3.kids.length qd] 25)))
          have HP7 := Lib.hid (HPA.out.belB HB7.out (by omega) (fun b hb => by have := hb.2; omega))
          have HG7 := Lib.hid (grown_bel (grown_bel (grown_trans HGX.out HG4.out) (bel_alloc (Below.refl w4.heap.size w4) (.cells #[.int .i64 q3.op, .int .i64 q3.n, .string ⟨q3.s.toArray⟩, .slice QB q3.kids.length qd] 25)) (by omega)) HB7.out (by omega))
          have HX7 := Lib.hid ((HX4.out.alloc (.cells #[.int .i64 q3.op, .int .i64 q3.n, .string ⟨q3.s.toArray⟩, .slice QB q3.kids.length qd] 25)).below HB7.out (by omega))
          have HFIT : Hid (FitG F (fun f rest => allG h f (acc ++ [q3]) rest) (l.drop i4) en bad4 m (n2 + 1) ∧ (bad4 < 0 → (l.drop i4).length < (l.drop i').length)) := Lib.hid (by
            have a1 := HFL.out
            have a2 := HNL.out
            have a3 := HLS.out
            rcases HF4.out with ⟨b1, b2⟩ | ⟨b1, r', b2, b3⟩
            · have b4 := HE3.out _ _ b2
              refine ⟨.inl ⟨b1, by omega, f, ?_, by omega⟩, fun _ => by omega⟩
              rw [HSTEP.out, if_pos (by rw [hand]), b2]
            · exact ⟨.inr ⟨b1, r', by rw [HSTEP.out, if_pos (by rw [hand]), b2], b3⟩, fun hh => by omega⟩)
          have HM : Hid (leftD w7 g < leftD wr g) := Lib.hid (by
            rw [HP7.out.left, HPN.out, if_pos (show (-1 : Int) < 0 by decide)]
            have := HFIT.out.2
            split
            · rename_i hh; have := this hh; omega
            · omega)
          go_roundw
          case rel => exact ⟨A7, n2 + 1, c7, acc ++ [q3], i4, bad4, rfl, HO7, HP7, HG7, HX7, Lib.hid HFIT.out.1, by omega, by have := HNL.out; have := HLS.out; omega⟩
          case measure => exact HM.out
set_option maxHeartbeats 4000000 in
theorem rquery26_any (h : List Pt → Rs) (m : Nat) (hm : m ≤ 600) (he : Eats (allF h)) (H : MethD 37 (allF h) m) : MethD 21 (qryF h) m := by
  intro l i w g S en A n c hl hp
  have X0 := Lib.hid (Blk.new w 25 #[.int .i64 0, .int .i64 0, .string ⟨#[]⟩, .slice none 0 0])
  have B0 := Lib.hid (bel_alloc (Below.refl w.heap.size w) (.cells #[.int .i64 0, .int .i64 0, .string ⟨#[]⟩, .slice none 0 0] 25))
  have hgl := hp.blk.lt
  have HOF := Lib.hid hp.off
  have HP0 := Lib.hid ((hp.wideS (S' := lowS S w) (fun b hb hlt => ⟨hb, hlt⟩) (fun hh => hp.off hh.1)).grown B0.out)
  have HC := Lib.hid (H l i _ g _ en A n c hl HP0.out)
  have HF : Hid (qryF h (l.drop i) = match allF h (l.drop i) with | .bad r => .bad r | .ok q r => qryG (allF h) r.length [q] r) := Lib.hid rfl
  have HE := Lib.hid (he (l.drop i))
  have HH := Lib.hid H
  have HEE := Lib.hid he
  clear hp HP0 H he
  obtain ⟨F, hF⟩ : ∃ F, F = qryF h (l.drop i) := ⟨_, rfl⟩
  rw [← hF] at HF ⊢
  clear hF
  obtain ⟨r0, hr0⟩ : ∃ r0, r0 = allF h (l.drop i) := ⟨_, rfl⟩
  rw [← hr0] at HC HF HE
  clear hr0
  have HLL := Lib.hid hl
  clear hl
  go_enter Tryz.func21, Tryz.ntmps21
  go_wp2_with fail
  (with_reducible refine (HC.out).mono ?_)
  rintro _ w1 ⟨vs, q, i1, bad1, rfl, hq, hp1, hg1, hfit⟩
  have HQ := Lib.hid hq
  obtain ⟨QA, qc, rfl, -, -, -, -, -, -⟩ := hq.open_
  simp only [qV] at HQ ⊢
  have HP1 := Lib.hid hp1
  have hg10 := hg1.size
  have HG1 := Lib.hid hg1
  have HX1 := Lib.hid (X0.out.grown hg1 (by simp; omega))
  have HFI : Hid (FitG F (fun f rest => qryG (allF h) f [q] rest) (l.drop i1) en bad1 m 1) := Lib.hid (by
    rcases hfit with ⟨e1, e2⟩ | ⟨e1, r', e2, e3⟩
    · refine .inl ⟨e1, ?_, (l.drop i1).length, ?_, Nat.le_refl _⟩
      · have := HE.out q _ e2
        have := HLL.out
        omega
      · rw [HF.out, e2]
    · exact .inr ⟨e1, r', by rw [HF.out, e2], e3⟩)
  clear hq hp1 hg1 hfit
  go_wp2_with fail
  go_loopw [3] (fun v wr => ∃ (A2 : Option Addr) (n2 c2 : Nat) (acc : List Qy) (i' : Nat) (bad : Int), v = .slice A2 n2 c2 ∧ Hid (Oq wr (w.heap.size + 1) (hiS w) A2 n2 c2 acc) ∧ Hid (PsD wr g (lowS S w) l i' en bad A n c) ∧ Hid (w.grownBy wr (some g)) ∧ Hid (Blk wr w.heap.size 25 #[.int .i64 0, .int .i64 0, .string ⟨#[]⟩, .slice none 0 0]) ∧ Hid (FitG F (fun f rest => qryG (allF h) f acc rest) (l.drop i') en bad m n2) ∧ 0 < n2 ∧ n2 ≤ m + 1) (fun _ wr => leftD wr g)
  case atStart =>
    have hr := HP1.out.row.len
    refine ⟨_, _, _, [q], i1, bad1, rfl, Lib.hid (Oq.lit ((HQ.out).wide (S' := hiS w) (fun b hb _ => by simp at hb; show w.heap.size < b; omega)) (by simp at hg10; exact hg10) rfl), Lib.hid (HP1.out.grown (bel_alloc (Below.refl _ _) _)), Lib.hid (grown_bel (grown_trans (grown_of B0.out) HG1.out) (bel_alloc (Below.refl w1.heap.size w1) _) (by simp at hg10; omega)), Lib.hid (HX1.out.alloc _), HFI, by omega, by omega⟩
  case round =>
    obtain ⟨A2, n2, c2, acc, i', bad, rfl, HO, HP, HG, HX, HFF, hn2, hnm⟩ := hrel
    have hcp1 := HO.out.cap.1
    have hcp2 := HO.out.cap.2
    obtain ⟨p0, p1, p2, p3, p4, p5⟩ := psd_facts HP.out
    have HN := Lib.hid (peek26_any wr g _ l i' en bad A n c HP.out)
    have HQS := Lib.hid (HO.out.qs (S' := hiS w) (fun b hb _ => hb) (fun b hb _ => hb))
    have HNE : Hid (acc ≠ []) := Lib.hid (by rintro rfl; have := HO.out.len; simp at this; omega)
    have HMN := Lib.hid (fun W (hk : QsAt W (hiS w) A2 n2 acc) => many26_any 4 acc A2 n2 c2 W (hiS w) (i64P_lit (by omega)) hk ⟨hcp1, hcp2⟩ HNE.out)
    rcases HFF.out with ⟨rfl, hs2, f, hF, hf⟩ | ⟨hb0, r1, hF1, hF2⟩
    case inr =>
      have HFT : Hid (Fit F (svl 4 acc) (l.drop i') en bad) := Lib.hid (.inr ⟨hb0, r1, hF1, hF2⟩)
      have d0 : decide (bad < 0) = false := by simpa using hb0
      clear HFF hF1 hF2
      go_wp2_with fail
      (with_reducible refine (HMN.out _ HQS.out).mono ?_)
      rintro _ w2 ⟨vs, rfl, hq2, hb2⟩
      obtain ⟨QB, qd, rfl, -, -, -, -, -, -⟩ := hq2.open_
      simp only [qV] at hq2 ⊢
      have hx2 := HX.out.below hb2 HX.out.lt
      obtain ⟨k0, k1, k2, k3, k4, k5⟩ := res_facts hx2
      have hgs := hb2.size
      have HX2 := Lib.hid hx2
      have HQ2 := Lib.hid hq2
      have HB2 := Lib.hid hb2
      clear hq2 hb2 hx2
      go_wp2_with fail
      generalize hsv : svl 4 acc = sv at *
      have y := set4 HX2.out (.int .i64 sv.op) (.int .i64 sv.n) (.string ⟨sv.s.toArray⟩) (.slice QB sv.kids.length qd)
      have y0 := y.cell 0
      have y1 := y.cell 1
      have y2 := y.cell 2
      have y3 := y.cell 3
      simp at y0 y1 y2 y3
      try simp only [Exit.inBlock, Exit.then]
      refine bodyPost_ret (v := .agg #[.int .i64 sv.op, .int .i64 sv.n, .string ⟨sv.s.toArray⟩, .slice QB sv.kids.length qd]) (by simp [results, Tryz.results21, go_sem, y0, y1, y2, y3]) rfl ?_
      exact ⟨_, sv, i', _, rfl, (HQ2.out.set4 (g := w.heap.size) (by have := HX.out.lt; rintro (h | h); exact Nat.lt_irrefl _ h; omega) _ _ _ _).wide (fun b hb _ => by have := HG.out.size; rcases hb with h | h; exact Nat.le_of_lt h; omega), (((HP.out.grown HB2.out).keepR (grown4 _ w.heap.size _ _ _ _) (by omega) (fun h => Nat.lt_irrefl _ h.2))).wideS (fun b hb _ => hb.1) HOF.out, grown_set4 (grown_bel HG.out HB2.out HG.out.size) (.inr (Nat.le_refl _)) _ _ _ _, HFT.out⟩
    case inl =>
      have HFG := Lib.hid hF
      have HPN := Lib.hid HP.out.left
      clear HFF hF
      by_cases hst : (nxt (l.drop i') == tOr) = false
      · have HFT : Hid (Fit F (svl 4 acc) (l.drop i') en (-1)) := Lib.hid (.inl ⟨rfl, HFG.out.trans (qryG_stop hst)⟩)
        obtain ⟨x, hx⟩ : ∃ x, x = nxt (l.drop i') := ⟨_, rfl⟩
        have HXN := Lib.hid hx.symm
        rw [← hx] at HN hst
        clear hx
        go_wp2_with fail
        (with_reducible refine (HN.out).mono ?_)
        rintro _ wq ⟨rfl, hw2⟩
        have HQS := Lib.hid (HQS.out.bel hw2)
        have HO := Lib.hid (HO.out.bel hw2)
        have HG := Lib.hid (grown_bel HG.out hw2 HG.out.size)
        have HX := Lib.hid (HX.out.below hw2 HX.out.lt)
        have HP := Lib.hid (HP.out.grown hw2)
        have HN := Lib.hid (peek26_any wq g _ l i' en (-1) A n c HP.out)
        rw [HXN.out] at HN
        obtain ⟨p0, p1, p2, p3, p4, p5⟩ := psd_facts HP.out
        clear hw2
        go_wp2_with fail
        (with_reducible refine (HMN.out _ HQS.out).mono ?_)
        rintro _ w2 ⟨vs, rfl, hq2, hb2⟩
        obtain ⟨QB, qd, rfl, -, -, -, -, -, -⟩ := hq2.open_
        simp only [qV] at hq2 ⊢
        have hx2 := HX.out.below hb2 HX.out.lt
        obtain ⟨k0, k1, k2, k3, k4, k5⟩ := res_facts hx2
        have hgs := hb2.size
        have HX2 := Lib.hid hx2
        have HQ2 := Lib.hid hq2
        have HB2 := Lib.hid hb2
        clear hq2 hb2 hx2
        go_wp2_with fail
        generalize hsv : svl 4 acc = sv at *
        have y := set4 HX2.out (.int .i64 sv.op) (.int .i64 sv.n) (.string ⟨sv.s.toArray⟩) (.slice QB sv.kids.length qd)
        have y0 := y.cell 0
        have y1 := y.cell 1
        have y2 := y.cell 2
        have y3 := y.cell 3
        simp at y0 y1 y2 y3
        try simp only [Exit.inBlock, Exit.then]
        refine bodyPost_ret (v := .agg #[.int .i64 sv.op, .int .i64 sv.n, .string ⟨sv.s.toArray⟩, .slice QB sv.kids.length qd]) (by simp [results, Tryz.results21, go_sem, y0, y1, y2, y3]) rfl ?_
        exact ⟨_, sv, i', _, rfl, (HQ2.out.set4 (g := w.heap.size) (by have := HX.out.lt; rintro (h | h); exact Nat.lt_irrefl _ h; omega) _ _ _ _).wide (fun b hb _ => by have := HG.out.size; rcases hb with h | h; exact Nat.le_of_lt h; omega), (((HP.out.grown HB2.out).keepR (grown4 _ w.heap.size _ _ _ _) (by omega) (fun h => Nat.lt_irrefl _ h.2))).wideS (fun b hb _ => hb.1) HOF.out, grown_set4 (grown_bel HG.out HB2.out HG.out.size) (.inr (Nat.le_refl _)) _ _ _ _, HFT.out⟩
      · have hst : nxt (l.drop i') = tOr := by simpa using hst
        have hne : nxt (l.drop i') ≠ [] := by rw [hst]; decide
        have hl0 := tail_lt hne
        have hl0 : 0 < (l.drop i').length := by omega
        obtain ⟨f, rfl⟩ : ∃ k, f = k + 1 := ⟨f - 1, by omega⟩
        have hi1 := HP.out.idx.1
        have hi2 := HP.out.idx.2
        have hln := HP.out.row.len
        have hlt : i' < n := by rw [List.length_drop] at hl0; omega
        have HSTEP : Hid (F = match allF h (l.drop (i' + 1)) with | .bad r => .bad r | .ok q r => qryG (allF h) f (acc ++ [q]) r) := Lib.hid (by
          rw [HFG.out]
          simp only [qryG]
          rw [if_pos (by rw [hst]; rfl), List.tail_drop]
          rfl)
        have HLP := Lib.hid (show (l.drop i').length ≤ m by omega)
        have HLS : Hid ((l.drop (i' + 1)).length + 1 = (l.drop i').length) := Lib.hid (by rw [List.length_drop, List.length_drop]; omega)
        have HFL := Lib.hid hf
        have HNL := Lib.hid hs2
        have HXN := Lib.hid hst
        rw [hst] at HN
        clear hs2 hf hl0 hln hst HFG hne
        go_wp2_with fail
        (with_reducible refine (HN.out).mono ?_)
        rintro _ wq ⟨rfl, hw2⟩
        have HQS := Lib.hid (HQS.out.bel hw2)
        have HO := Lib.hid (HO.out.bel hw2)
        have HG := Lib.hid (grown_bel HG.out hw2 HG.out.size)
        have HX := Lib.hid (HX.out.below hw2 HX.out.lt)
        have HP := Lib.hid (HP.out.grown hw2)
        have HN := Lib.hid (peek26_any wq g _ l i' en (-1) A n c HP.out)
        rw [HXN.out] at HN
        obtain ⟨p0, p1, p2, p3, p4, p5⟩ := psd_facts HP.out
        clear hw2
        have HPX := Lib.hid (HP.out.setI (i' + 1) hlt)
        have hsg := only_setCell (p := ⟨g, 1, none⟩) (World.grownBy.refl wq (some g)) (.inl rfl) (.int .i64 ((i' + 1 : Nat) : Int))
        have HXX := Lib.hid (HX.out.grown hsg (by simp; omega))
        have hxl := HX.out.lt
        have hG0 := HG.out.size
        have HOX := Lib.hid (HO.out.grown hsg (by simp only [hiS]; omega) (by omega))
        have HGX := Lib.hid (grown_trans HG.out hsg)
        have HSG := Lib.hid hsg
        clear hsg
        rw [show ((i' + 1 : Nat) : Int) = (i' : Int) + 1 by omega] at HPX HXX HOX HGX
        have HC3 := Lib.hid (HH.out l (i' + 1) (wq.setCell ⟨g, 1, none⟩ (.int .i64 ((i' : Int) + 1))) g _ en A n c (by have := HLP.out; have := HLS.out; omega) HPX.out)
        have HE3 := Lib.hid (HEE.out (l.drop (i' + 1)))
        go_wp2_with fail
        (with_reducible refine (HC3.out).mono ?_)
        rintro _ w4 ⟨vs, q3, i4, bad4, rfl, hq4, hp4, hg4, hfit4⟩
        have HQ4 := Lib.hid hq4
        obtain ⟨QB, qd, rfl, -, -, -, -, -, -⟩ := hq4.open_
        simp only [qV] at HQ4 ⊢
        have hg40 := hg4.size
        try simp at hg40
        have HP4 := Lib.hid hp4
        have HG4 := Lib.hid hg4
        have HX4 := Lib.hid (HXX.out.grown hg4 (by simp; omega))
        have HF4 := Lib.hid hfit4
        have ho4 := (HOX.out.grown hg4 (by simp only [hiS]; omega) (by omega)).bel (bel_alloc (Below.refl w4.heap.size w4) (.cells #[.int .i64 q3.op, .int .i64 q3.n, .string ⟨q3.s.toArray⟩, .slice QB q3.kids.length qd] 25))
        have hol := HOX.out.lt
        have hr4 : QsR (w4.alloc (.cells #[.int .i64 q3.op, .int .i64 q3.n, .string ⟨q3.s.toArray⟩, .slice QB q3.kids.length qd] 25)) (fun b => hiS w b ∧ some b ≠ (Value.slice A2 n2 c2).ownBlock) (some ⟨w4.heap.size, 0, none⟩) 1 [q3] :=
          QAt.lit (HQ4.out.wide (fun b hb hlt => ⟨by show w.heap.size < b; (try simp at hb); omega, fun he => by have := (hol b he.symm).2; (try simp at hb); (try simp at this); omega⟩))
        have hba : w.heap.size + 1 ≤ (w4.alloc (.cells #[.int .i64 q3.op, .int .i64 q3.n, .string ⟨q3.s.toArray⟩, .slice QB q3.kids.length qd] 25)).heap.size := by simp; omega
        clear hq4 hp4 hg4 hol hfit4
        go_wp2_with (at_builtin; go_loud (refine wpList_appQ rfl rfl rfl ho4 rfl hr4 (by omega) hba ?_; intro A7 c7 w7 ho7 hb7; have HO7 := Lib.hid ho7; have HB7 := Lib.hid hb7; clear ho7 hb7))
        have HPA := Lib.hid (HP4.out.grown (bel_alloc (Below.refl w4.heap.size w4) (.cells #[.int .i64 q3.op, .int .i64 q3.n, .string ⟨q3.s.toArray⟩, .slice QB q3.kids.length qd] 25)))
        have HP7 := Lib.hid (HPA.out.belB HB7.out (by omega) (fun b hb => by have := hb.2; omega))
        have HG7 := Lib.hid (grown_bel (grown_bel (grown_trans HGX.out HG4.out) (bel_alloc (Below.refl w4.heap.size w4) (.cells #[.int .i64 q3.op, .int .i64 q3.n, .string ⟨q3.s.toArray⟩, .slice QB q3.kids.length qd] 25)) (by omega)) HB7.out (by omega))
        have HX7 := Lib.hid ((HX4.out.alloc (.cells #[.int .i64 q3.op, .int .i64 q3.n, .string ⟨q3.s.toArray⟩, .slice QB q3.kids.length qd] 25)).below HB7.out (by omega))
        have HFIT : Hid (FitG F (fun f rest => qryG (allF h) f (acc ++ [q3]) rest) (l.drop i4) en bad4 m (n2 + 1) ∧ (bad4 < 0 → (l.drop i4).length < (l.drop i').length)) := Lib.hid (by
          have a1 := HFL.out
          have a2 := HNL.out
          have a3 := HLS.out
          rcases HF4.out with ⟨b1, b2⟩ | ⟨b1, r', b2, b3⟩
          · have b4 := HE3.out _ _ b2
            refine ⟨.inl ⟨b1, by omega, f, ?_, by omega⟩, fun _ => by omega⟩
            rw [HSTEP.out, b2]
          · exact ⟨.inr ⟨b1, r', by rw [HSTEP.out, b2], b3⟩, fun hh => by omega⟩)
        have HM : Hid (leftD w7 g < leftD wr g) := Lib.hid (by
          rw [HP7.out.left, HPN.out, if_pos (show (-1 : Int) < 0 by decide)]
          have := HFIT.out.2
          split
          · rename_i hh; have := this hh; omega
          · omega)
        go_roundw
        case rel => exact ⟨A7, n2 + 1, c7, acc ++ [q3], i4, bad4, rfl, HO7, HP7, HG7, HX7, Lib.hid HFIT.out.1, by omega, by have := HNL.out; have := HLS.out; omega⟩
        case measure => exact HM.out
end Go.Proofs.YtjjlmkleidbmhaaGreatDoor
end
