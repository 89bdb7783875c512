/-
  Queries' texts and what they lean on, part 15: only what the claims need.
-/
import Derived.Test.YtjjlmkleidbmhaaGreatDoorZ14
section
namespace Go.Proofs.YtjjlmkleidbmhaaGreatDoor
open Go.ChangeShapes Go.WideShapes Go.ChangeAt Go.Deep
open Go.RowKit Go.Nst
set_option maxRecDepth 100000
set_option linter.unusedVariables false
set_option linter.unusedSimpArgs false

theorem Psr.wideS {w : World} {g : Nat} {S S' : Nat → Prop} {l : List Pt} {e : Int} {A : Option Addr} {n c : Nat} (h : Psr w g S l e A n c) (hS : ∀ b, S b → b < w.heap.size → S' b) (hg : ¬ S' g) : Psr w g S' l e A n c :=
  ⟨h.blk, h.row.wide ptP hS, h.cap, hg, h.env⟩
theorem Psr.belB {w w' : World} {g B : Nat} {S : Nat → Prop} {l : List Pt} {e : Int} {A : Option Addr} {n c : Nat} (h : Psr w g S l e A n c) (hb : Below B w w') (hg : g < B) (hS : ∀ b, S b → b < B) : Psr w' g S l e A n c :=
  ⟨h.blk.below hb hg, h.row.keep ptP (fun b hs _ => hb.block b (hS b hs)) hb.size (fun _ h _ => h), h.cap, h.off, fun W hW => h.env W ((hb.mono (Nat.le_of_lt hg)).trans hW)⟩
theorem Psr.keepR {w w' : World} {g R : Nat} {S : Nat → Prop} {l : List Pt} {e : Int} {A : Option Addr} {n c : Nat} (h : Psr w g S l e A n c) (hb : w.grownBy w' (some R)) (hg : g < R) (hS : ¬ S R) : Psr w' g S l e A n c :=
  ⟨h.blk.grown hb (fun e => by injection e with e; omega), h.row.grown ptP hb (fun k hk => by injection hk with hk; exact hk ▸ hS), h.cap, h.off, fun W hW => h.env W ((below_grown hb (Nat.le_of_lt hg) (Nat.le_of_lt h.blk.lt)).trans hW)⟩
theorem grown_bel {a b c : World} {g B : Nat} (h : a.grownBy b (some g)) (k : Below B b c) (hB : a.heap.size ≤ B) : a.grownBy c (some g) :=
  ⟨k.os.trans h.os, k.tape.trans h.tape, k.output.trans h.output, Nat.le_trans h.size k.size, fun i hi hne => (k.block i (Nat.lt_of_lt_of_le hi hB)).trans (h.block i hi hne)⟩
theorem grown_set4 {a w : World} {k g : Nat} (h : a.grownBy w (some k)) (hg : g = k ∨ a.heap.size ≤ g) (v0 v1 v2 v3 : Value) : a.grownBy ((((w.setCell ⟨g, 0, none⟩ v0).setCell ⟨g, 1, none⟩ v1).setCell ⟨g, 2, none⟩ v2).setCell ⟨g, 3, none⟩ v3) (some k) := by
  have h1 := only_setCell (p := ⟨g, 0, none⟩) h hg v0
  have h2 := only_setCell (p := ⟨g, 1, none⟩) h1 hg v1
  have h3 := only_setCell (p := ⟨g, 2, none⟩) h2 hg v2
  exact only_setCell (p := ⟨g, 3, none⟩) h3 hg v3
theorem grown4 (w : World) (g : Nat) (v0 v1 v2 v3 : Value) : w.grownBy ((((w.setCell ⟨g, 0, none⟩ v0).setCell ⟨g, 1, none⟩ v1).setCell ⟨g, 2, none⟩ v2).setCell ⟨g, 3, none⟩ v3) (some g) := grown_set4 (World.grownBy.refl _ _) (.inl rfl) v0 v1 v2 v3
/-- how many parts a parser holds -/
def leftN (w : World) (g : Nat) : Nat := match w.cell? ⟨g, 0, none⟩ with
  | some (.slice _ n _) => n
  | _ => 0
theorem Psr.left {w : World} {g : Nat} {S : Nat → Prop} {l : List Pt} {e : Int} {A : Option Addr} {n c : Nat} (h : Psr w g S l e A n c) : leftN w g = l.length := by
  have q0 := h.blk.cell 0
  simp at q0
  unfold leftN
  rw [q0, h.row.len]
theorem take26_any (w : World) (g : Nat) (S : Nat → Prop) (l : List Pt) (e : Int) (A : Option Addr) (n c : Nat) (s : List UInt8) (h : Psr w g S l e A n c) (h0 : s ≠ []) :
    Calls Tryz.prog 48 #[.pointer (some ⟨g, 0, none⟩), .string ⟨s.toArray⟩] w fun e' w' => e' = .returned (.bool (nxt l == s)) ∧ ∃ A' n' c', Psr w' g S (if (nxt l == s) = true then l.tail else l) e A' n' c' ∧ w.grownBy w' (some g) := by
  by_cases hs : nxt l = s
  · have hb : (nxt l == s) = true := by rw [hs]; simp
    have hl : l ≠ [] := by rintro rfl; exact h0 hs.symm
    rw [hb, if_pos rfl]
    exact take26_yes w g S l e A n c s h hs hl
  · have hb : (nxt l == s) = false := by simpa using hs
    rw [hb, if_neg (by decide)]
    refine (take26_no w g S l e A n c s h hb).mono ?_
    rintro _ w1 ⟨rfl, rfl⟩
    exact ⟨rfl, A, n, c, h, World.grownBy.refl _ _⟩
/-- an old set of blocks, all below a bound -/
abbrev lowS (S : Nat → Prop) (w : World) : Nat → Prop := fun b => S b ∧ b < w.heap.size
abbrev hiS (w : World) : Nat → Prop := fun b => w.heap.size < b
theorem stopA_cases {l : List Pt} (h : stopA l = true) : nxt l = [] ∨ nxt l = tOr ∨ nxt l = tCls := by
  unfold stopA at h
  simp only [Bool.or_eq_true, beq_iff_eq] at h
  rcases h with (h | h) | h
  · exact .inl h
  · exact .inr (.inl h)
  · exact .inr (.inr h)
theorem stopA_not {l : List Pt} (h : ¬ stopA l = true) : (nxt l == []) = false ∧ (nxt l == tOr) = false ∧ (nxt l == tCls) = false := by
  unfold stopA at h
  simp only [Bool.or_eq_true, not_or, Bool.not_eq_true] at h
  exact ⟨h.1.1, h.1.2, h.2⟩
set_option maxHeartbeats 4000000 in
theorem all26_any (h : List Pt → Rs) (m : Nat) (hm : m ≤ 600) (he : Eats h) (H : MethP 67 h m) : MethP 47 (allF h) m := by
  intro l w g S en A n c hl hp
  have X0 := Lib.hid (Blk.new w 25 #[.int .i64 0, .int .i64 0, .string ⟨#[]⟩, .slice none 0 0])
  have B0 := Lib.hid (bel_alloc (Below.refl w.heap.size w) (.cells #[.int .i64 0, .int .i64 0, .string ⟨#[]⟩, .slice none 0 0] 25))
  have hgl := hp.blk.lt
  have HOF := Lib.hid hp.off
  have HP0 := Lib.hid ((hp.wideS (S' := lowS S w) (fun b hb hlt => ⟨hb, hlt⟩) (fun hh => hp.off hh.1)).grown B0.out)
  have HC := Lib.hid (H l _ g _ en A n c hl HP0.out)
  have HF : Hid (allF h l = match h l with | .bad r => .bad r | .ok q r => allG h r.length [q] r) := Lib.hid rfl
  have HE := Lib.hid (he l)
  have HH := Lib.hid H
  have HEE := Lib.hid he
  clear hp HP0 H he
  cases hol : h l with
  | bad r =>
    rw [hol] at HC HF
    clear hol HE
    go_enter Tryz.func47, Tryz.ntmps47
    go_wp2_with fail
    (with_reducible refine (HC.out).mono ?_)
    rintro _ w1 ⟨rfl, hg1⟩
    exact ⟨rfl, by rw [HF.out]; exact ⟨rfl, grown_trans (grown_of B0.out) hg1⟩⟩
  | ok q r =>
    rw [hol] at HC HF
    have hrl : r.length < l.length := HE.out q r hol
    clear hol HE
    go_enter Tryz.func47, Tryz.ntmps47
    go_wp2_with fail
    (with_reducible refine (HC.out).mono ?_)
    rintro _ w1 ⟨vs, A1, n1, c1, rfl, hq, hp1, hg1⟩
    have HQ := Lib.hid hq
    obtain ⟨QA, qc, rfl, -, -, -, -, -, -⟩ := hq.open_
    simp only [qV] at HQ ⊢
    have HP1 := Lib.hid hp1
    have hg10 := hg1.size
    have HG1 := Lib.hid hg1
    have HX1 := Lib.hid (X0.out.grown hg1 (by simp; omega))
    clear hq hp1 hg1
    go_wp2_with fail
    go_loopw [3] (fun v wr => ∃ (A2 : Option Addr) (n2 c2 : Nat) (acc : List Qy) (A' : Option Addr) (n' c' : Nat) (l' : List Pt) (f : Nat), v = .slice A2 n2 c2 ∧ Hid (Oq wr (w.heap.size + 1) (hiS w) A2 n2 c2 acc) ∧ Hid (Psr wr g (lowS S w) l' en A' n' c') ∧ Hid (w.grownBy wr (some g)) ∧ Hid (Blk wr w.heap.size 25 #[.int .i64 0, .int .i64 0, .string ⟨#[]⟩, .slice none 0 0]) ∧ Hid (allF h l = allG h f acc l') ∧ l'.length ≤ f ∧ l'.length ≤ m ∧ 0 < n2 ∧ n2 + l'.length ≤ m + 1) (fun _ wr => leftN wr g)
    case atStart =>
      have hr := HP1.out.row.len
      refine ⟨_, _, _, [q], A1, n1, c1, r, r.length, rfl, Lib.hid (Oq.lit ((HQ.out).wide (S' := hiS w) (fun b hb _ => by simp at hb; show w.heap.size < b; omega)) (by simp at hg10; exact hg10) rfl), Lib.hid (HP1.out.grown (bel_alloc (Below.refl _ _) _)), Lib.hid (grown_bel (grown_trans (grown_of B0.out) HG1.out) (bel_alloc (Below.refl w1.heap.size w1) _) (by simp at hg10; omega)), Lib.hid (HX1.out.alloc _), HF, Nat.le_refl _, by omega, by omega, by omega⟩
    case round =>
      obtain ⟨A2, n2, c2, acc, A', n', c', l', f, rfl, HO, HP, HG, HX, HFF, hf, hlm, hn2, hnm⟩ := hrel
      have hcp1 := HO.out.cap.1
      have hcp2 := HO.out.cap.2
      have HN := Lib.hid (next26_any wr g _ l' en A' n' c' HP.out)
      by_cases hst : stopA l' = true
      · have HS := Lib.hid hst
        obtain ⟨x, hx⟩ : ∃ x, x = nxt l' := ⟨_, rfl⟩
        have hcs := stopA_cases hst
        rw [← hx] at HN hcs
        clear hx hst
        have HQS := Lib.hid (HO.out.qs (S' := hiS w) (fun b hb _ => hb) (fun b hb _ => hb))
        have HNE : Hid (acc ≠ []) := Lib.hid (by rintro rfl; have := HO.out.len; simp at this; omega)
        rcases hcs with rfl | rfl | rfl
        · go_wp2_with fail
          (with_reducible refine (HN.out).mono ?_)
          rintro _ w2 ⟨rfl, hw2⟩
          obtain rfl := hw2.symm
          go_wp2_with fail
          (with_reducible refine (several26_any 3 acc A2 n2 c2 wr (hiS w) (i64P_lit (by omega)) HQS.out ⟨hcp1, hcp2⟩ HNE.out).mono ?_)
          rintro _ w2 ⟨vs, rfl, hq2, hb2⟩
          obtain ⟨QB, qd, rfl, -, -, -, -, -, -⟩ := hq2.open_
          simp only [qV] at hq2 ⊢
          have hx2 := HX.out.below hb2 HX.out.lt
          obtain ⟨k0, k1, k2, k3, k4, k5⟩ := res_facts hx2
          have hgs := hb2.size
          have HX2 := Lib.hid hx2
          have HQ2 := Lib.hid hq2
          have HB2 := Lib.hid hb2
          clear hq2 hb2 hx2
          go_wp2_with fail
          generalize hsv : svl 3 acc = sv at *
          have y := set4 HX2.out (.int .i64 sv.op) (.int .i64 sv.n) (.string ⟨sv.s.toArray⟩) (.slice QB sv.kids.length qd)
          have y0 := y.cell 0
          have y1 := y.cell 1
          have y2 := y.cell 2
          have y3 := y.cell 3
          simp at y0 y1 y2 y3
          try simp only [Exit.inBlock, Exit.then]
          refine bodyPost_ret (v := .agg #[.int .i64 sv.op, .int .i64 sv.n, .string ⟨sv.s.toArray⟩, .slice QB sv.kids.length qd]) (by simp [results, Tryz.results47, go_sem, y0, y1, y2, y3]) rfl ?_
          rw [HFF.out, allG_stop HS.out, hsv]
          exact ⟨_, A', n', c', rfl, (HQ2.out.set4 (g := w.heap.size) (by have := HX.out.lt; rintro (h | h); exact Nat.lt_irrefl _ h; omega) _ _ _ _).wide (fun b hb _ => by have := HG.out.size; rcases hb with h | h; exact Nat.le_of_lt h; omega), (((HP.out.grown HB2.out).keepR (grown4 _ w.heap.size _ _ _ _) (by omega) (fun h => Nat.lt_irrefl _ h.2))).wideS (fun b hb _ => hb.1) HOF.out, grown_set4 (grown_bel HG.out HB2.out HG.out.size) (.inr (Nat.le_refl _)) _ _ _ _⟩
        · go_wp2_with fail
          (with_reducible refine (HN.out).mono ?_)
          rintro _ w2 ⟨rfl, hw2⟩
          obtain rfl := hw2.symm
          go_wp2_with fail
          (with_reducible refine (several26_any 3 acc A2 n2 c2 wr (hiS w) (i64P_lit (by omega)) HQS.out ⟨hcp1, hcp2⟩ HNE.out).mono ?_)
          rintro _ w2 ⟨vs, rfl, hq2, hb2⟩
          obtain ⟨QB, qd, rfl, -, -, -, -, -, -⟩ := hq2.open_
          simp only [qV] at hq2 ⊢
          have hx2 := HX.out.below hb2 HX.out.lt
          obtain ⟨k0, k1, k2, k3, k4, k5⟩ := res_facts hx2
          have hgs := hb2.size
          have HX2 := Lib.hid hx2
          have HQ2 := Lib.hid hq2
          have HB2 := Lib.hid hb2
          clear hq2 hb2 hx2
          go_wp2_with fail
          generalize hsv : svl 3 acc = sv at *
          have y := set4 HX2.out (.int .i64 sv.op) (.int .i64 sv.n) (.string ⟨sv.s.toArray⟩) (.slice QB sv.kids.length qd)
          have y0 := y.cell 0
          have y1 := y.cell 1
          have y2 := y.cell 2
          have y3 := y.cell 3
          simp at y0 y1 y2 y3
          try simp only [Exit.inBlock, Exit.then]
          refine bodyPost_ret (v := .agg #[.int .i64 sv.op, .int .i64 sv.n, .string ⟨sv.s.toArray⟩, .slice QB sv.kids.length qd]) (by simp [results, Tryz.results47, go_sem, y0, y1, y2, y3]) rfl ?_
          rw [HFF.out, allG_stop HS.out, hsv]
          exact ⟨_, A', n', c', rfl, (HQ2.out.set4 (g := w.heap.size) (by have := HX.out.lt; rintro (h | h); exact Nat.lt_irrefl _ h; omega) _ _ _ _).wide (fun b hb _ => by have := HG.out.size; rcases hb with h | h; exact Nat.le_of_lt h; omega), (((HP.out.grown HB2.out).keepR (grown4 _ w.heap.size _ _ _ _) (by omega) (fun h => Nat.lt_irrefl _ h.2))).wideS (fun b hb _ => hb.1) HOF.out, grown_set4 (grown_bel HG.out HB2.out HG.out.size) (.inr (Nat.le_refl _)) _ _ _ _⟩
        · go_wp2_with fail
          (with_reducible refine (HN.out).mono ?_)
          rintro _ w2 ⟨rfl, hw2⟩
          obtain rfl := hw2.symm
          go_wp2_with fail
          (with_reducible refine (several26_any 3 acc A2 n2 c2 wr (hiS w) (i64P_lit (by omega)) HQS.out ⟨hcp1, hcp2⟩ HNE.out).mono ?_)
          rintro _ w2 ⟨vs, rfl, hq2, hb2⟩
          obtain ⟨QB, qd, rfl, -, -, -, -, -, -⟩ := hq2.open_
          simp only [qV] at hq2 ⊢
          have hx2 := HX.out.below hb2 HX.out.lt
          obtain ⟨k0, k1, k2, k3, k4, k5⟩ := res_facts hx2
          have hgs := hb2.size
          have HX2 := Lib.hid hx2
          have HQ2 := Lib.hid hq2
          have HB2 := Lib.hid hb2
          clear hq2 hb2 hx2
          go_wp2_with fail
          generalize hsv : svl 3 acc = sv at *
          have y := set4 HX2.out (.int .i64 sv.op) (.int .i64 sv.n) (.string ⟨sv.s.toArray⟩) (.slice QB sv.kids.length qd)
          have y0 := y.cell 0
          have y1 := y.cell 1
          have y2 := y.cell 2
          have y3 := y.cell 3
          simp at y0 y1 y2 y3
          try simp only [Exit.inBlock, Exit.then]
          refine bodyPost_ret (v := .agg #[.int .i64 sv.op, .int .i64 sv.n, .string ⟨sv.s.toArray⟩, .slice QB sv.kids.length qd]) (by simp [results, Tryz.results47, go_sem, y0, y1, y2, y3]) rfl ?_
          rw [HFF.out, allG_stop HS.out, hsv]
          exact ⟨_, A', n', c', rfl, (HQ2.out.set4 (g := w.heap.size) (by have := HX.out.lt; rintro (h | h); exact Nat.lt_irrefl _ h; omega) _ _ _ _).wide (fun b hb _ => by have := HG.out.size; rcases hb with h | h; exact Nat.le_of_lt h; omega), (((HP.out.grown HB2.out).keepR (grown4 _ w.heap.size _ _ _ _) (by omega) (fun h => Nat.lt_irrefl _ h.2))).wideS (fun b hb _ => hb.1) HOF.out, grown_set4 (grown_bel HG.out HB2.out HG.out.size) (.inr (Nat.le_refl _)) _ _ _ _⟩
      · obtain ⟨e1, e2, e3⟩ := stopA_not hst
        have HS := Lib.hid hst
        have hl0 : 0 < l'.length := by
          rcases Nat.eq_zero_or_pos l'.length with h0 | h0
          · rw [List.eq_nil_of_length_eq_zero h0] at hst
            exact absurd rfl hst
          · exact h0
        obtain ⟨f, rfl⟩ : ∃ k, f = k + 1 := ⟨f - 1, by omega⟩
        have HT := Lib.hid (take26_any wr g _ l' en A' n' c' tAnd HP.out (by decide))
        obtain ⟨l2, hl2⟩ : ∃ x, x = if (nxt l' == tAnd) = true then l'.tail else l' := ⟨_, rfl⟩
        have hl2n : l2.length ≤ l'.length := by rw [hl2]; split <;> simp
        have HSTEP : Hid (allG h (f + 1) acc l' = match h l2 with | .bad r => .bad r | .ok q r => allG h f (acc ++ [q]) r) := Lib.hid (by
          rw [hl2]
          simp only [allG]
          rw [if_neg hst]
          rfl)
        rw [← hl2] at HT
        obtain ⟨x, hx⟩ : ∃ x, x = nxt l' := ⟨_, rfl⟩
        rw [← hx] at HN e1 e2 e3 HT
        clear hx hl2 hst
        go_wp2_with fail
        (with_reducible refine (HN.out).mono ?_)
        rintro _ w2 ⟨rfl, hw2⟩
        obtain rfl := hw2.symm
        go_wp2_with fail
        (with_reducible refine (HT.out).mono ?_)
        rintro _ w2 ⟨rfl, A3, n3, c3, hp3, hg3⟩
        have HP3 := Lib.hid hp3
        have HG3 := Lib.hid hg3
        have hg30 := hg3.size
        have HX3 := Lib.hid (HX.out.grown hg3 (by simp; omega))
        have hxl := HX.out.lt
        have hG0 := HG.out.size
        have HO3 := Lib.hid (HO.out.grown hg3 (by simp only [hiS]; omega) (by omega))
        have HC3 := Lib.hid (HH.out l2 w2 g _ en A3 n3 c3 (by omega) hp3)
        have HE3 := Lib.hid (HEE.out l2)
        clear hp3 hg3
        go_wp2_with fail
        cases ho2 : h l2 with
        | bad r3 =>
          rw [ho2] at HC3 HSTEP
          (with_reducible refine (HC3.out).mono ?_)
          rintro _ w4 ⟨rfl, hg4⟩
          try simp only [Exit.inBlock, Exit.then]
          refine ⟨rfl, ?_⟩
          rw [HFF.out, HSTEP.out]
          exact ⟨rfl, grown_trans (grown_trans HG.out HG3.out) hg4⟩
        | ok q3 r3 =>
          have hr3 := HE3.out _ _ ho2
          rw [ho2] at HC3 HSTEP
          clear ho2
          (with_reducible refine (HC3.out).mono ?_)
          rintro _ w4 ⟨vs, A4, n4, c4, rfl, hq4, hp4, hg4⟩
          have HQ4 := Lib.hid hq4
          obtain ⟨QB, qd, rfl, -, -, -, -, -, -⟩ := hq4.open_
          simp only [qV] at HQ4 ⊢
          have hg40 := hg4.size
          have HP4 := Lib.hid hp4
          have HG4 := Lib.hid hg4
          have HX4 := Lib.hid (HX3.out.grown hg4 (by simp; omega))
          have ho4 := (HO3.out.grown hg4 (by simp only [hiS]; omega) (by omega)).bel (bel_alloc (Below.refl w4.heap.size w4) (.cells #[.int .i64 q3.op, .int .i64 q3.n, .string ⟨q3.s.toArray⟩, .slice QB q3.kids.length qd] 25))
          have hol := HO3.out.lt
          have hr4 : QsR (w4.alloc (.cells #[.int .i64 q3.op, .int .i64 q3.n, .string ⟨q3.s.toArray⟩, .slice QB q3.kids.length qd] 25)) (fun b => hiS w b ∧ some b ≠ (Value.slice A2 n2 c2).ownBlock) (some ⟨w4.heap.size, 0, none⟩) 1 [q3] :=
            QAt.lit (HQ4.out.wide (fun b hb hlt => ⟨by show w.heap.size < b; omega, fun he => by have := (hol b he.symm).2; omega⟩))
          have hba : w.heap.size + 1 ≤ (w4.alloc (.cells #[.int .i64 q3.op, .int .i64 q3.n, .string ⟨q3.s.toArray⟩, .slice QB q3.kids.length qd] 25)).heap.size := by simp; omega
          clear hq4 hp4 hg4 hol
          go_wp2_with (at_builtin; go_loud (refine wpList_appQ rfl rfl rfl ho4 rfl hr4 (by omega) hba ?_; intro A7 c7 w7 ho7 hb7; have HO7 := Lib.hid ho7; have HB7 := Lib.hid hb7; clear ho7 hb7))
          have HPA := Lib.hid (HP4.out.grown (bel_alloc (Below.refl w4.heap.size w4) (.cells #[.int .i64 q3.op, .int .i64 q3.n, .string ⟨q3.s.toArray⟩, .slice QB q3.kids.length qd] 25)))
          have HP7 := Lib.hid (HPA.out.belB HB7.out (by omega) (fun b hb => by have := hb.2; omega))
          have HG7 := Lib.hid (grown_bel (grown_bel (grown_trans (grown_trans HG.out HG3.out) HG4.out) (bel_alloc (Below.refl w4.heap.size w4) (.cells #[.int .i64 q3.op, .int .i64 q3.n, .string ⟨q3.s.toArray⟩, .slice QB q3.kids.length qd] 25)) (by omega)) HB7.out (by omega))
          have HX7 := Lib.hid ((HX4.out.alloc (.cells #[.int .i64 q3.op, .int .i64 q3.n, .string ⟨q3.s.toArray⟩, .slice QB q3.kids.length qd] 25)).below HB7.out (by omega))
          have HM : Hid (leftN w7 g < leftN wr g) := Lib.hid (by rw [HP7.out.left, HP.out.left]; omega)
          go_roundw
          case rel => exact ⟨A7, n2 + 1, c7, acc ++ [q3], A4, n4, c4, r3, f, rfl, HO7, HP7, HG7, HX7, Lib.hid (HFF.out.trans HSTEP.out), by omega, by omega, by omega, by omega⟩
          case measure => exact HM.out
set_option maxHeartbeats 4000000 in
theorem query26_any (h : List Pt → Rs) (m : Nat) (hm : m ≤ 600) (he : Eats (allF h)) (H : MethP 47 (allF h) m) : MethP 32 (qryF h) m := by
  intro l w g S en A n c hl hp
  have X0 := Lib.hid (Blk.new w 25 #[.int .i64 0, .int .i64 0, .string ⟨#[]⟩, .slice none 0 0])
  have B0 := Lib.hid (bel_alloc (Below.refl w.heap.size w) (.cells #[.int .i64 0, .int .i64 0, .string ⟨#[]⟩, .slice none 0 0] 25))
  have hgl := hp.blk.lt
  have HOF := Lib.hid hp.off
  have HP0 := Lib.hid ((hp.wideS (S' := lowS S w) (fun b hb hlt => ⟨hb, hlt⟩) (fun hh => hp.off hh.1)).grown B0.out)
  have HC := Lib.hid (H l _ g _ en A n c hl HP0.out)
  have HF : Hid (qryF h l = match allF h l with | .bad r => .bad r | .ok q r => qryG (allF h) r.length [q] r) := Lib.hid rfl
  have HE := Lib.hid (he l)
  have HH := Lib.hid H
  have HEE := Lib.hid he
  clear hp HP0 H he
  cases hol : allF h l with
  | bad r =>
    rw [hol] at HC HF
    clear hol HE
    go_enter Tryz.func32, Tryz.ntmps32
    go_wp2_with fail
    (with_reducible refine (HC.out).mono ?_)
    rintro _ w1 ⟨rfl, hg1⟩
    exact ⟨rfl, by rw [HF.out]; exact ⟨rfl, grown_trans (grown_of B0.out) hg1⟩⟩
  | ok q r =>
    rw [hol] at HC HF
    have hrl : r.length < l.length := HE.out q r hol
    clear hol HE
    go_enter Tryz.func32, Tryz.ntmps32
    go_wp2_with fail
    (with_reducible refine (HC.out).mono ?_)
    rintro _ w1 ⟨vs, A1, n1, c1, rfl, hq, hp1, hg1⟩
    have HQ := Lib.hid hq
    obtain ⟨QA, qc, rfl, -, -, -, -, -, -⟩ := hq.open_
    simp only [qV] at HQ ⊢
    have HP1 := Lib.hid hp1
    have hg10 := hg1.size
    have HG1 := Lib.hid hg1
    have HX1 := Lib.hid (X0.out.grown hg1 (by simp; omega))
    clear hq hp1 hg1
    go_wp2_with fail
    go_loopw [3] (fun v wr => ∃ (A2 : Option Addr) (n2 c2 : Nat) (acc : List Qy) (A' : Option Addr) (n' c' : Nat) (l' : List Pt) (f : Nat), v = .slice A2 n2 c2 ∧ Hid (Oq wr (w.heap.size + 1) (hiS w) A2 n2 c2 acc) ∧ Hid (Psr wr g (lowS S w) l' en A' n' c') ∧ Hid (w.grownBy wr (some g)) ∧ Hid (Blk wr w.heap.size 25 #[.int .i64 0, .int .i64 0, .string ⟨#[]⟩, .slice none 0 0]) ∧ Hid (qryF h l = qryG (allF h) f acc l') ∧ l'.length ≤ f ∧ l'.length ≤ m ∧ 0 < n2 ∧ n2 + l'.length ≤ m + 1) (fun _ wr => leftN wr g)
    case atStart =>
      have hr := HP1.out.row.len
      refine ⟨_, _, _, [q], A1, n1, c1, r, r.length, rfl, Lib.hid (Oq.lit ((HQ.out).wide (S' := hiS w) (fun b hb _ => by simp at hb; show w.heap.size < b; omega)) (by simp at hg10; exact hg10) rfl), Lib.hid (HP1.out.grown (bel_alloc (Below.refl _ _) _)), Lib.hid (grown_bel (grown_trans (grown_of B0.out) HG1.out) (bel_alloc (Below.refl w1.heap.size w1) _) (by simp at hg10; omega)), Lib.hid (HX1.out.alloc _), HF, Nat.le_refl _, by omega, by omega, by omega⟩
    case round =>
      obtain ⟨A2, n2, c2, acc, A', n', c', l', f, rfl, HO, HP, HG, HX, HFF, hf, hlm, hn2, hnm⟩ := hrel
      have hcp1 := HO.out.cap.1
      have hcp2 := HO.out.cap.2
      by_cases hst : (nxt l' == tOr) = false
      · have HS := Lib.hid hst
        have HT := Lib.hid (take26_no wr g _ l' en A' n' c' tOr HP.out hst)
        have HQS := Lib.hid (HO.out.qs (S' := hiS w) (fun b hb _ => hb) (fun b hb _ => hb))
        have HNE : Hid (acc ≠ []) := Lib.hid (by rintro rfl; have := HO.out.len; simp at this; omega)
        clear hst
        go_wp2_with fail
        (with_reducible refine (HT.out).mono ?_)
        rintro _ w2 ⟨rfl, hw2⟩
        obtain rfl := hw2.symm
        go_wp2_with fail
        (with_reducible refine (several26_any 4 acc A2 n2 c2 wr (hiS w) (i64P_lit (by omega)) HQS.out ⟨hcp1, hcp2⟩ HNE.out).mono ?_)
        rintro _ w2 ⟨vs, rfl, hq2, hb2⟩
        obtain ⟨QB, qd, rfl, -, -, -, -, -, -⟩ := hq2.open_
        simp only [qV] at hq2 ⊢
        have hx2 := HX.out.below hb2 HX.out.lt
        obtain ⟨k0, k1, k2, k3, k4, k5⟩ := res_facts hx2
        have hgs := hb2.size
        have HX2 := Lib.hid hx2
        have HQ2 := Lib.hid hq2
        have HB2 := Lib.hid hb2
        clear hq2 hb2 hx2
        go_wp2_with fail
        generalize hsv : svl 4 acc = sv at *
        have y := set4 HX2.out (.int .i64 sv.op) (.int .i64 sv.n) (.string ⟨sv.s.toArray⟩) (.slice QB sv.kids.length qd)
        have y0 := y.cell 0
        have y1 := y.cell 1
        have y2 := y.cell 2
        have y3 := y.cell 3
        simp at y0 y1 y2 y3
        try simp only [Exit.inBlock, Exit.then]
        refine bodyPost_ret (v := .agg #[.int .i64 sv.op, .int .i64 sv.n, .string ⟨sv.s.toArray⟩, .slice QB sv.kids.length qd]) (by simp [results, Tryz.results32, go_sem, y0, y1, y2, y3]) rfl ?_
        rw [HFF.out, qryG_stop HS.out, hsv]
        exact ⟨_, A', n', c', rfl, (HQ2.out.set4 (g := w.heap.size) (by have := HX.out.lt; rintro (h | h); exact Nat.lt_irrefl _ h; omega) _ _ _ _).wide (fun b hb _ => by have := HG.out.size; rcases hb with h | h; exact Nat.le_of_lt h; omega), (((HP.out.grown HB2.out).keepR (grown4 _ w.heap.size _ _ _ _) (by omega) (fun h => Nat.lt_irrefl _ h.2))).wideS (fun b hb _ => hb.1) HOF.out, grown_set4 (grown_bel HG.out HB2.out HG.out.size) (.inr (Nat.le_refl _)) _ _ _ _⟩
      · have hst : nxt l' = tOr := by simpa using hst
        have hne : nxt l' ≠ [] := by rw [hst]; decide
        have hl0 := tail_lt hne
        obtain ⟨f, rfl⟩ : ∃ k, f = k + 1 := ⟨f - 1, by omega⟩
        have HT := Lib.hid (take26_yes wr g _ l' en A' n' c' tOr HP.out hst (ne_of_nxt hne))
        have HSTEP : Hid (qryG (allF h) (f + 1) acc l' = match allF h l'.tail with | .bad r => .bad r | .ok q r => qryG (allF h) f (acc ++ [q]) r) := Lib.hid (by
          simp only [qryG]
          rw [if_pos (by rw [hst]; rfl)]
          rfl)
        obtain ⟨l2, hl2⟩ : ∃ x, x = l'.tail := ⟨_, rfl⟩
        rw [← hl2] at HT HSTEP hl0
        clear hl2 hst hne
        go_wp2_with fail
        (with_reducible refine (HT.out).mono ?_)
        rintro _ w2 ⟨rfl, A3, n3, c3, hp3, hg3⟩
        have HP3 := Lib.hid hp3
        have HG3 := Lib.hid hg3
        have hg30 := hg3.size
        have HX3 := Lib.hid (HX.out.grown hg3 (by simp; omega))
        have hxl := HX.out.lt
        have hG0 := HG.out.size
        have HO3 := Lib.hid (HO.out.grown hg3 (by simp only [hiS]; omega) (by omega))
        have HC3 := Lib.hid (HH.out l2 w2 g _ en A3 n3 c3 (by omega) hp3)
        have HE3 := Lib.hid (HEE.out l2)
        clear hp3 hg3
        go_wp2_with fail
        cases ho2 : allF h l2 with
        | bad r3 =>
          rw [ho2] at HC3 HSTEP
          (with_reducible refine (HC3.out).mono ?_)
          rintro _ w4 ⟨rfl, hg4⟩
          try simp only [Exit.inBlock, Exit.then]
          refine ⟨rfl, ?_⟩
          rw [HFF.out, HSTEP.out]
          exact ⟨rfl, grown_trans (grown_trans HG.out HG3.out) hg4⟩
        | ok q3 r3 =>
          have hr3 := HE3.out _ _ ho2
          rw [ho2] at HC3 HSTEP
          clear ho2
          (with_reducible refine (HC3.out).mono ?_)
          rintro _ w4 ⟨vs, A4, n4, c4, rfl, hq4, hp4, hg4⟩
          have HQ4 := Lib.hid hq4
          obtain ⟨QB, qd, rfl, -, -, -, -, -, -⟩ := hq4.open_
          simp only [qV] at HQ4 ⊢
          have hg40 := hg4.size
          have HP4 := Lib.hid hp4
          have HG4 := Lib.hid hg4
          have HX4 := Lib.hid (HX3.out.grown hg4 (by simp; omega))
          have ho4 := (HO3.out.grown hg4 (by simp only [hiS]; omega) (by omega)).bel (bel_alloc (Below.refl w4.heap.size w4) (.cells #[.int .i64 q3.op, .int .i64 q3.n, .string ⟨q3.s.toArray⟩, .slice QB q3.kids.length qd] 25))
          have hol := HO3.out.lt
          have hr4 : QsR (w4.alloc (.cells #[.int .i64 q3.op, .int .i64 q3.n, .string ⟨q3.s.toArray⟩, .slice QB q3.kids.length qd] 25)) (fun b => hiS w b ∧ some b ≠ (Value.slice A2 n2 c2).ownBlock) (some ⟨w4.heap.size, 0, none⟩) 1 [q3] :=
            QAt.lit (HQ4.out.wide (fun b hb hlt => ⟨by show w.heap.size < b; omega, fun he => by have := (hol b he.symm).2; omega⟩))
          have hba : w.heap.size + 1 ≤ (w4.alloc (.cells #[.int .i64 q3.op, .int .i64 q3.n, .string ⟨q3.s.toArray⟩, .slice QB q3.kids.length qd] 25)).heap.size := by simp; omega
          clear hq4 hp4 hg4 hol
          go_wp2_with (at_builtin; go_loud (refine wpList_appQ rfl rfl rfl ho4 rfl hr4 (by omega) hba ?_; intro A7 c7 w7 ho7 hb7; have HO7 := Lib.hid ho7; have HB7 := Lib.hid hb7; clear ho7 hb7))
          have HPA := Lib.hid (HP4.out.grown (bel_alloc (Below.refl w4.heap.size w4) (.cells #[.int .i64 q3.op, .int .i64 q3.n, .string ⟨q3.s.toArray⟩, .slice QB q3.kids.length qd] 25)))
          have HP7 := Lib.hid (HPA.out.belB HB7.out (by omega) (fun b hb => by have := hb.2; omega))
          have HG7 := Lib.hid (grown_bel (grown_bel (grown_trans (grown_trans HG.out HG3.out) HG4.out) (bel_alloc (Below.refl w4.heap.size w4) (.cells #[.int .i64 q3.op, .int .i64 q3.n, .string ⟨q3.s.toArray⟩, .slice QB q3.kids.length qd] 25)) (by omega)) HB7.out (by omega))
          have HX7 := Lib.hid ((HX4.out.alloc (.cells #[.int .i64 q3.op, .int .i64 q3.n, .string ⟨q3.s.toArray⟩, .slice QB q3.kids.length qd] 25)).below HB7.out (by omega))
          have HM : Hid (leftN w7 g < leftN wr g) := Lib.hid (by rw [HP7.out.left, HP.out.left]; omega)
          go_roundw
          case rel => exact ⟨A7, n2 + 1, c7, acc ++ [q3], A4, n4, c4, r3, f, rfl, HO7, HP7, HG7, HX7, Lib.hid (HFF.out.trans HSTEP.out), by omega, by omega, by omega, by omega⟩
          case measure => exact HM.out
end Go.Proofs.YtjjlmkleidbmhaaGreatDoor
end
section
namespace Go.Proofs.YtjjlmkleidbmhaaGreatDoor
open Go.ChangeShapes Go.WideShapes Go.ChangeAt Go.Deep
open Go.RowKit Go.Nst
set_option maxRecDepth 100000
set_option linter.unusedVariables false
set_option linter.unusedSimpArgs false

/-- a term's query, with what it says of it -/
def RetTm (tm : Option Qy) (w : World) (e : Ending) (w' : World) : Prop := ∃ q vs, e = .returned (.tuple #[.agg vs, .bool tm.isSome]) ∧ QAt w' (fun b => w.heap.size ≤ b) vs q ∧ Below w.heap.size w w' ∧ ∀ q', tm = some q' → q' = q
def TermP (tm : List UInt8 → Option Qy) : Prop := ∀ (s : List UInt8) (w : World), s.length ≤ 512 → QpW w → Calls Tryz.prog 86 #[.string ⟨s.toArray⟩] w (RetTm (tm s) w)
/-- may none begin so? -/
def stopO (l : List Pt) : Bool := nxt l == [] || nxt l == tOr || nxt l == tAnd || nxt l == tCls
theorem oneF_stop (tm : List UInt8 → Option Qy) {l : List Pt} (h : stopO l = true) : ∀ f, oneF tm f l = .bad l
  | 0 => rfl
  | f + 1 => by
    unfold stopO at h
    simp only [oneF, oneS]
    rw [if_pos h]
theorem stopO_cases {l : List Pt} (h : stopO l = true) : nxt l = [] ∨ nxt l = tOr ∨ nxt l = tAnd ∨ nxt l = tCls := by
  unfold stopO at h
  simp only [Bool.or_eq_true, beq_iff_eq] at h
  rcases h with ((h | h) | h) | h
  · exact .inl h
  · exact .inr (.inl h)
  · exact .inr (.inr (.inl h))
  · exact .inr (.inr (.inr h))
theorem stopO_not {l : List Pt} (h : ¬ stopO l = true) : (nxt l == []) = false ∧ (nxt l == tOr) = false ∧ (nxt l == tAnd) = false ∧ (nxt l == tCls) = false := by
  unfold stopO at h
  simp only [Bool.or_eq_true, not_or, Bool.not_eq_true] at h
  exact ⟨h.1.1.1, h.1.1.2, h.1.2, h.2⟩
set_option maxHeartbeats 2000000 in
theorem one26_bad (tm : List UInt8 → Option Qy) (f : Nat) (l : List Pt) (w : World) (g : Nat) (S : Nat → Prop) (en : Int) (A : Option Addr) (n c : Nat) (hp : Psr w g S l en A n c) (hst : stopO l = true) :
    Calls Tryz.prog 67 #[.pointer (some ⟨g, 0, none⟩)] w (RetPr w g S en (oneF tm f l)) := by
  have B0 := Lib.hid (bel_alloc (Below.refl w.heap.size w) (.cells #[.int .i64 0, .int .i64 0, .string ⟨#[]⟩, .slice none 0 0] 25))
  rw [oneF_stop tm hst]
  have HP0 := Lib.hid (hp.grown B0.out)
  have HN := Lib.hid (next26_any _ g S l en A n c HP0.out)
  have HFL := Lib.hid (fail26_any _ g S l en A n c HP0.out)
  have hcs := stopO_cases hst
  generalize nxt l = x at *
  clear hst hp
  rcases hcs with rfl | rfl | rfl | rfl
  all_goals
    go_enter Tryz.func67, Tryz.ntmps67
    go_wp2_with fail
    (with_reducible refine (HN.out).mono ?_)
    rintro _ w2 ⟨rfl, hw2⟩
    obtain rfl := hw2.symm
    go_wp2_with fail
    (with_reducible refine (HFL.out).mono ?_)
    rintro _ w2 ⟨rfl, hw2⟩
    obtain rfl := hw2.symm
    try simp only [Exit.inBlock, Exit.then]
    exact ⟨rfl, rfl, grown_of B0.out⟩
set_option maxHeartbeats 4000000 in
theorem one26_not (tm : List UInt8 → Option Qy) (f m : Nat) (H : MethP 67 (oneF tm f) m) (l : List Pt) (w : World) (g : Nat) (S : Nat → Prop) (en : Int) (A : Option Addr) (n c : Nat) (hl : l.length ≤ m + 1) (hp : Psr w g S l en A n c) (hst : nxt l = tNot) :
    Calls Tryz.prog 67 #[.pointer (some ⟨g, 0, none⟩)] w (RetPr w g S en (oneF tm (f + 1) l)) := by
  have B0 := Lib.hid (bel_alloc (Below.refl w.heap.size w) (.cells #[.int .i64 0, .int .i64 0, .string ⟨#[]⟩, .slice none 0 0] 25))
  have X0 := Lib.hid (Blk.new w 25 #[.int .i64 0, .int .i64 0, .string ⟨#[]⟩, .slice none 0 0])
  have hgl := hp.blk.lt
  have HOF := Lib.hid hp.off
  have hne : nxt l ≠ [] := by rw [hst]; decide
  have hl1 : l.tail.length ≤ m := by have := tail_lt hne; omega
  have HP0 := Lib.hid ((hp.wideS (S' := lowS S w) (fun b hb hlt => ⟨hb, hlt⟩) (fun hh => hp.off hh.1)).grown B0.out)
  have HN := Lib.hid (next26_any _ g _ l en A n c HP0.out)
  have HT := Lib.hid (take26_yes _ g _ l en A n c tNot HP0.out hst (ne_of_nxt hne))
  have HF : Hid (oneF tm (f + 1) l = match oneF tm f l.tail with | .bad r => .bad r | .ok q r => .ok ⟨5, 0, [], [q]⟩ r) := Lib.hid (by
    simp only [oneF, oneS, hst]
    rfl)
  have HH := Lib.hid H
  rw [hst] at HN
  clear hp H hst hne
  go_enter Tryz.func67, Tryz.ntmps67
  go_wp2_with fail
  (with_reducible refine (HN.out).mono ?_)
  rintro _ w2 ⟨rfl, hw2⟩
  obtain rfl := hw2.symm
  go_wp2_with fail
  (with_reducible refine (HT.out).mono ?_)
  rintro _ w2 ⟨rfl, A2, n2, c2, hp2, hg2⟩
  have HC := Lib.hid (HH.out l.tail w2 g _ en A2 n2 c2 hl1 hp2)
  have HG2 := Lib.hid hg2
  have hg20 := hg2.size
  have HX2 := Lib.hid (X0.out.grown hg2 (by simp; omega))
  clear hp2 hg2
  go_wp2_with fail
  cases ho : oneF tm f l.tail with
  | bad r3 =>
    rw [ho] at HC HF
    (with_reducible refine (HC.out).mono ?_)
    rintro _ w3 ⟨rfl, hg3⟩
    try simp only [Exit.inBlock, Exit.then]
    refine ⟨rfl, ?_⟩
    rw [HF.out]
    exact ⟨rfl, grown_trans (grown_trans (grown_of B0.out) HG2.out) hg3⟩
  | ok q r3 =>
    rw [ho] at HC HF
    clear ho
    (with_reducible refine (HC.out).mono ?_)
    rintro _ w3 ⟨vs, A3, n3, c3, rfl, hq3, hp3, hg3⟩
    have HQ3 := Lib.hid hq3
    obtain ⟨QB, qd, rfl, -, -, -, -, -, -⟩ := hq3.open_
    simp only [qV] at HQ3 ⊢
    have hg30 := hg3.size
    have HP3 := Lib.hid hp3
    have HG3 := Lib.hid hg3
    have HX3 := Lib.hid (HX2.out.grown hg3 (by simp; omega))
    obtain ⟨k0, k1, k2, k3, k4, k5⟩ := res_facts (HX2.out.grown hg3 (by simp; omega))
    clear hq3 hp3 hg3
    go_wp2_with fail
    have y := (set4 HX3.out (.int .i64 5) (.int .i64 0) (.string ⟨#[]⟩) (.slice (some ⟨w3.heap.size, 0, none⟩) 1 1)).alloc (.cells #[.int .i64 q.op, .int .i64 q.n, .string ⟨q.s.toArray⟩, .slice QB q.kids.length qd] 25)
    have y0 := y.cell 0
    have y1 := y.cell 1
    have y2 := y.cell 2
    have y3 := y.cell 3
    simp at y0 y1 y2 y3
    try simp only [Exit.inBlock, Exit.then]
    refine bodyPost_ret (v := .agg #[.int .i64 5, .int .i64 0, .string ⟨#[]⟩, .slice (some ⟨w3.heap.size, 0, none⟩) 1 1]) (by simp [results, Tryz.results67, go_sem, y0, y1, y2, y3]) rfl ?_
    rw [HF.out]
    simp at hg20 hg30
    have hq4 := ((HQ3.out.wide (S' := hiS w) (fun b hb _ => by show w.heap.size < b; omega)).set4 (g := w.heap.size) (Nat.lt_irrefl _) (.int .i64 5) (.int .i64 0) (.string ⟨#[]⟩) (.slice (some ⟨w3.heap.size, 0, none⟩) 1 1))
    have hz : ((((w3.setCell ⟨w.heap.size, 0, none⟩ (.int .i64 5)).setCell ⟨w.heap.size, 1, none⟩ (.int .i64 0)).setCell ⟨w.heap.size, 2, none⟩ (.string ⟨#[]⟩)).setCell ⟨w.heap.size, 3, none⟩ (.slice (some ⟨w3.heap.size, 0, none⟩) 1 1)).heap.size = w3.heap.size := by simp [World.setCell]
    refine ⟨_, A3, n3, c3, rfl, (not_made hq4 (by show w.heap.size < _; omega) hz).wide (fun b hb _ => Nat.le_of_lt hb), ((HP3.out.keepR (grown4 _ w.heap.size _ _ _ _) (by omega) (fun h => Nat.lt_irrefl _ h.2)).grown (bel_alloc (Below.refl _ _) _)).wideS (fun b hb _ => hb.1) HOF.out, ?_⟩
    exact grown_bel (grown_set4 (grown_trans (grown_trans (grown_of B0.out) HG2.out) HG3.out) (.inr (Nat.le_refl _)) _ _ _ _) (bel_alloc (Below.refl _ _) _) (by omega)
theorem Psr.nxt_len {w : World} {g : Nat} {S : Nat → Prop} {l : List Pt} {e : Int} {A : Option Addr} {n c : Nat} (h : Psr w g S l e A n c) : (nxt l).length ≤ 512 := by
  cases l with
  | nil => simp [nxt]
  | cons p l =>
    have hl := h.row.len
    have hn : 0 < n := by simp at hl; omega
    obtain ⟨p', b, off, HG, rfl, -, hb, h5, -, -⟩ := pt_at h.row hn
    have : p' = p := by have := HG.out; simpa using this.symm
    subst this
    exact h5.1
set_option maxHeartbeats 4000000 in
theorem one26_opn (tm : List UInt8 → Option Qy) (f m : Nat) (H : MethP 32 (qryF (oneF tm f)) m) (l : List Pt) (w : World) (g : Nat) (S : Nat → Prop) (en : Int) (A : Option Addr) (n c : Nat) (hl : l.length ≤ m + 1) (hp : Psr w g S l en A n c) (hst : nxt l = tOpn) :
    Calls Tryz.prog 67 #[.pointer (some ⟨g, 0, none⟩)] w (RetPr w g S en (oneF tm (f + 1) l)) := by
  have B0 := Lib.hid (bel_alloc (Below.refl w.heap.size w) (.cells #[.int .i64 0, .int .i64 0, .string ⟨#[]⟩, .slice none 0 0] 25))
  have X0 := Lib.hid (Blk.new w 25 #[.int .i64 0, .int .i64 0, .string ⟨#[]⟩, .slice none 0 0])
  have hgl := hp.blk.lt
  have HOF := Lib.hid hp.off
  have hne : nxt l ≠ [] := by rw [hst]; decide
  have hl1 : l.tail.length ≤ m := by have := tail_lt hne; omega
  have HP0 := Lib.hid ((hp.wideS (S' := lowS S w) (fun b hb hlt => ⟨hb, hlt⟩) (fun hh => hp.off hh.1)).grown B0.out)
  have HN := Lib.hid (next26_any _ g _ l en A n c HP0.out)
  have HT := Lib.hid (take26_yes _ g _ l en A n c tOpn HP0.out hst (ne_of_nxt hne))
  have HF : Hid (oneF tm (f + 1) l = match qryF (oneF tm f) l.tail with | .bad r => .bad r | .ok q r => if nxt r == tCls then .ok q r.tail else .bad r) := Lib.hid (by
    simp only [oneF, oneS, hst]
    rfl)
  have HH := Lib.hid H
  rw [hst] at HN
  clear hp H hst hne
  go_enter Tryz.func67, Tryz.ntmps67
  go_wp2_with fail
  (with_reducible refine (HN.out).mono ?_)
  rintro _ w2 ⟨rfl, hw2⟩
  obtain rfl := hw2.symm
  go_wp2_with fail
  (with_reducible refine (HT.out).mono ?_)
  rintro _ w2 ⟨rfl, A2, n2, c2, hp2, hg2⟩
  have HC := Lib.hid (HH.out l.tail w2 g _ en A2 n2 c2 hl1 hp2)
  have HG2 := Lib.hid hg2
  have hg20 := hg2.size
  have HX2 := Lib.hid (X0.out.grown hg2 (by simp; omega))
  clear hp2 hg2
  go_wp2_with fail
  cases ho : qryF (oneF tm f) l.tail with
  | bad r3 =>
    rw [ho] at HC HF
    (with_reducible refine (HC.out).mono ?_)
    rintro _ w3 ⟨rfl, hg3⟩
    try simp only [Exit.inBlock, Exit.then]
    refine ⟨rfl, ?_⟩
    rw [HF.out]
    exact ⟨rfl, grown_trans (grown_trans (grown_of B0.out) HG2.out) hg3⟩
  | ok q r3 =>
    rw [ho] at HC HF
    clear ho
    (with_reducible refine (HC.out).mono ?_)
    rintro _ w3 ⟨vs, A3, n3, c3, rfl, hq3, hp3, hg3⟩
    have HQ3 := Lib.hid hq3
    obtain ⟨QB, qd, rfl, -, -, -, -, -, -⟩ := hq3.open_
    simp only [qV] at HQ3 ⊢
    have hg30 := hg3.size
    have B3 := bel_alloc (Below.refl w3.heap.size w3) (.cells #[.int .i64 q.op, .int .i64 q.n, .string ⟨q.s.toArray⟩, .slice QB q.kids.length qd] 25)
    have HP3 := Lib.hid (hp3.grown B3)
    have HG3 := Lib.hid (grown_bel (grown_trans (grown_trans (grown_of B0.out) HG2.out) hg3) B3 (by simp at hg20; omega))
    have HX3 := Lib.hid ((HX2.out.grown hg3 (by simp; omega)).below B3 (by simp at hg20; omega))
    have HY3 := Lib.hid (Blk.new w3 25 #[.int .i64 q.op, .int .i64 q.n, .string ⟨q.s.toArray⟩, .slice QB q.kids.length qd])
    have HQ4 := Lib.hid (HQ3.out.bel B3)
    have HT2 := Lib.hid (take26_any _ g _ r3 en A3 n3 c3 tCls HP3.out (by decide))
    obtain ⟨k0, k1, k2, k3, k4, k5⟩ := res_facts HY3.out
    clear hq3 hp3 hg3 B3
    go_wp2_with fail
    (with_reducible refine (HT2.out).mono ?_)
    rintro _ w5 ⟨rfl, A5, n5, c5, hp5, hg5⟩
    have HP5 := Lib.hid hp5
    have HG5 := Lib.hid hg5
    have hg50 := hg5.size
    simp at hg50
    have HX5 := Lib.hid (HX3.out.grown hg5 (by simp; omega))
    have HY5 := Lib.hid (HY3.out.grown hg5 (by simp at hg20 ⊢; omega))
    have HQ5 := Lib.hid (HQ4.out.grown hg5 (fun k hk hh => by injection hk with hk; subst hk; simp at hh hg20; omega))
    have HFL := Lib.hid (fail26_any w5 g _ _ en A5 n5 c5 hp5)
    obtain ⟨z0, z1, z2, z3, z4, z5⟩ := res_facts HX5.out
    obtain ⟨m0, m1, m2, m3, m4, m5⟩ := res_facts HY5.out
    clear hp5 hg5
    cases hb : (nxt r3 == tCls) with
    | false =>
      rw [hb, if_neg (by decide)] at HFL HF
      go_wp2_with fail
      (with_reducible refine (HFL.out).mono ?_)
      rintro _ w6 ⟨rfl, hw6⟩
      obtain rfl := hw6.symm
      try simp only [Exit.inBlock, Exit.then]
      refine ⟨rfl, ?_⟩
      rw [HF.out]
      exact ⟨rfl, grown_trans HG3.out HG5.out⟩
    | true =>
      rw [hb, if_pos rfl] at HP5 HF
      clear HFL
      go_wp2_with fail
      have y := set4 HX5.out (.int .i64 q.op) (.int .i64 q.n) (.string ⟨q.s.toArray⟩) (.slice QB q.kids.length qd)
      have y0 := y.cell 0
      have y1 := y.cell 1
      have y2 := y.cell 2
      have y3 := y.cell 3
      simp at y0 y1 y2 y3
      try simp only [Exit.inBlock, Exit.then]
      refine bodyPost_ret (v := .agg #[.int .i64 q.op, .int .i64 q.n, .string ⟨q.s.toArray⟩, .slice QB q.kids.length qd]) (by simp [results, Tryz.results67, go_sem, y0, y1, y2, y3]) rfl ?_
      rw [HF.out]
      simp at hg20
      refine ⟨_, A5, n5, c5, rfl, ((HQ5.out.wide (S' := hiS w) (fun b hb _ => by show w.heap.size < b; omega)).set4 (g := w.heap.size) (Nat.lt_irrefl _) _ _ _ _).wide (fun b hb _ => Nat.le_of_lt hb), (HP5.out.keepR (grown4 _ w.heap.size _ _ _ _) (by omega) (fun h => Nat.lt_irrefl _ h.2)).wideS (fun b hb _ => hb.1) HOF.out, ?_⟩
      exact grown_set4 (grown_trans HG3.out HG5.out) (.inr (Nat.le_refl _)) _ _ _ _
set_option maxHeartbeats 4000000 in
theorem one26_term (tm : List UInt8 → Option Qy) (HTM : TermP tm) (f : Nat) (l : List Pt) (w : World) (g : Nat) (S : Nat → Prop) (en : Int) (A : Option Addr) (n c : Nat) (hp : Psr w g S l en A n c) (h0 : ¬ stopO l = true) (h1 : (nxt l == tNot) = false) (h2 : (nxt l == tOpn) = false) :
    Calls Tryz.prog 67 #[.pointer (some ⟨g, 0, none⟩)] w (RetPr w g S en (oneF tm (f + 1) l)) := by
  have B0 := Lib.hid (bel_alloc (Below.refl w.heap.size w) (.cells #[.int .i64 0, .int .i64 0, .string ⟨#[]⟩, .slice none 0 0] 25))
  have X0 := Lib.hid (Blk.new w 25 #[.int .i64 0, .int .i64 0, .string ⟨#[]⟩, .slice none 0 0])
  have hgl := hp.blk.lt
  have HOF := Lib.hid hp.off
  obtain ⟨e1, e2, e3, e4⟩ := stopO_not h0
  have HNE : Hid (nxt l ≠ []) := Lib.hid (by simpa using e1)
  have HP0 := Lib.hid ((hp.wideS (S' := lowS S w) (fun b hb hlt => ⟨hb, hlt⟩) (fun hh => hp.off hh.1)).grown B0.out)
  have HN := Lib.hid (next26_any _ g _ l en A n c HP0.out)
  have HF : Hid (oneF tm (f + 1) l = match tm (nxt l) with | some q => .ok q l.tail | none => .bad l) := Lib.hid (by
    have h0' := h0
    unfold stopO at h0'
    simp only [oneF, oneS]
    rw [if_neg h0', h1, h2]
    rfl)
  have HC := Lib.hid (HTM (nxt l) (w.alloc (.cells #[.int .i64 0, .int .i64 0, .string ⟨#[]⟩, .slice none 0 0] 25)) hp.nxt_len (HP0.out.env _ (Below.refl _ _)))
  obtain ⟨x, hx⟩ : ∃ x, x = nxt l := ⟨_, rfl⟩
  have HXX := Lib.hid hx
  rw [← hx] at HN HF HC e1 e2 e3 e4 h1 h2
  have hx0 : x ≠ [] := by simpa using e1
  clear hp hx h0
  go_enter Tryz.func67, Tryz.ntmps67
  go_wp2_with fail
  (with_reducible refine (HN.out).mono ?_)
  rintro _ w2 ⟨rfl, hw2⟩
  obtain rfl := hw2.symm
  go_wp2_with fail
  (with_reducible refine (HC.out).mono ?_)
  rintro _ w3 ⟨q, vs, rfl, hq3, hb3, he3⟩
  have HQ3 := Lib.hid hq3
  obtain ⟨QB, qd, rfl, -, -, -, -, -, -⟩ := hq3.open_
  simp only [qV] at HQ3 ⊢
  have hg30 := hb3.size
  simp at hg30
  have B3 := bel_alloc (Below.refl w3.heap.size w3) (.cells #[.int .i64 q.op, .int .i64 q.n, .string ⟨q.s.toArray⟩, .slice QB q.kids.length qd] 25)
  have HP3 := Lib.hid ((HP0.out.grown hb3).grown B3)
  have HG3 := Lib.hid (grown_of (g := g) (bel_step B0.out (bel_step hb3 B3)))
  have HX3 := Lib.hid ((X0.out.below hb3 X0.out.lt).below B3 (by omega))
  have HY3 := Lib.hid (Blk.new w3 25 #[.int .i64 q.op, .int .i64 q.n, .string ⟨q.s.toArray⟩, .slice QB q.kids.length qd])
  have HQ4 := Lib.hid (HQ3.out.bel B3)
  have HE3 := Lib.hid he3
  obtain ⟨k0, k1, k2, k3, k4, k5⟩ := res_facts HY3.out
  clear hq3 hb3 B3 he3
  cases ht : tm x with
  | none =>
    have HFL := Lib.hid (fail26_any _ g _ l en A n c HP3.out)
    rw [ht] at HF
    go_wp2_with fail
    (with_reducible refine (HFL.out).mono ?_)
    rintro _ w6 ⟨rfl, hw6⟩
    obtain rfl := hw6.symm
    try simp only [Exit.inBlock, Exit.then]
    refine ⟨rfl, ?_⟩
    rw [HF.out]
    exact ⟨rfl, HG3.out⟩
  | some q' =>
    obtain rfl := HE3.out q' ht
    have HT2 := Lib.hid (take26_yes _ g _ l en A n c x HP3.out HXX.out.symm (ne_of_nxt HNE.out))
    rw [ht] at HF
    go_wp2_with fail
    (with_reducible refine (HT2.out).mono ?_)
    rintro _ w5 ⟨rfl, A5, n5, c5, hp5, hg5⟩
    have HP5 := Lib.hid hp5
    have HG5 := Lib.hid hg5
    have hg50 := hg5.size
    simp at hg50
    have HX5 := Lib.hid (HX3.out.grown hg5 (by simp; omega))
    have HY5 := Lib.hid (HY3.out.grown hg5 (by simp; omega))
    have HQ5 := Lib.hid (HQ4.out.grown hg5 (fun k hk hh => by injection hk with hk; subst hk; simp at hh; omega))
    obtain ⟨z0, z1, z2, z3, z4, z5⟩ := res_facts HX5.out
    obtain ⟨m0, m1, m2, m3, m4, m5⟩ := res_facts HY5.out
    clear hp5 hg5
    go_wp2_with fail
    have y := set4 HX5.out (.int .i64 q'.op) (.int .i64 q'.n) (.string ⟨q'.s.toArray⟩) (.slice QB q'.kids.length qd)
    have y0 := y.cell 0
    have y1 := y.cell 1
    have y2 := y.cell 2
    have y3 := y.cell 3
    simp at y0 y1 y2 y3
    try simp only [Exit.inBlock, Exit.then]
    refine bodyPost_ret (v := .agg #[.int .i64 q'.op, .int .i64 q'.n, .string ⟨q'.s.toArray⟩, .slice QB q'.kids.length qd]) (by simp [results, Tryz.results67, go_sem, y0, y1, y2, y3]) rfl ?_
    rw [HF.out]
    refine ⟨_, A5, n5, c5, rfl, ((HQ5.out.wide (S' := hiS w) (fun b hb _ => by show w.heap.size < b; simp at hb; omega)).set4 (g := w.heap.size) (Nat.lt_irrefl _) _ _ _ _).wide (fun b hb _ => Nat.le_of_lt hb), (HP5.out.keepR (grown4 _ w.heap.size _ _ _ _) (by omega) (fun h => Nat.lt_irrefl _ h.2)).wideS (fun b hb _ => hb.1) HOF.out, ?_⟩
    exact grown_set4 (grown_trans HG3.out HG5.out) (.inr (Nat.le_refl _)) _ _ _ _
theorem one26_step (tm : List UInt8 → Option Qy) (HTM : TermP tm) (f m : Nat) (H1 : MethP 67 (oneF tm f) m) (H2 : MethP 32 (qryF (oneF tm f)) m) : MethP 67 (oneF tm (f + 1)) (m + 1) := by
  intro l w g S en A n c hl hp
  by_cases h0 : stopO l = true
  · exact one26_bad tm (f + 1) l w g S en A n c hp h0
  cases h1 : (nxt l == tNot) with
  | true => exact one26_not tm f m H1 l w g S en A n c hl hp (by simpa using h1)
  | false =>
    cases h2 : (nxt l == tOpn) with
    | true => exact one26_opn tm f m H2 l w g S en A n c hl hp (by simpa using h2)
    | false => exact one26_term tm HTM f l w g S en A n c hp h0 h1 h2
theorem one26_any (tm : List UInt8 → Option Qy) (HTM : TermP tm) : ∀ m, m ≤ 600 → MethP 67 (oneF tm m) m
  | 0, _ => by
    intro l w g S en A n c hl hp
    obtain rfl : l = [] := List.eq_nil_of_length_eq_zero (by omega)
    exact one26_bad tm 0 [] w g S en A n c hp rfl
  | m + 1, hm => by
    have H1 := one26_any tm HTM m (by omega)
    exact one26_step tm HTM m m H1 (query26_any _ m (by omega) (allF_eats (oneF_eats tm m)) (all26_any _ m (by omega) (oneF_eats tm m) H1))
theorem qry26_any (tm : List UInt8 → Option Qy) (HTM : TermP tm) (m : Nat) (hm : m ≤ 600) : MethP 32 (qryF (oneF tm m)) m :=
  query26_any _ m hm (allF_eats (oneF_eats tm m)) (all26_any _ m hm (oneF_eats tm m) (one26_any tm HTM m hm))
end Go.Proofs.YtjjlmkleidbmhaaGreatDoor
end
