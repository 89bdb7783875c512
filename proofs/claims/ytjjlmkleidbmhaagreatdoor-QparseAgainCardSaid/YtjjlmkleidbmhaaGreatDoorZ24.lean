/-
  Queries' texts and what they lean on, part 24: only what the claims need.
-/
import Derived.Test.YtjjlmkleidbmhaaGreatDoorZ23
section
namespace Go.Proofs.YtjjlmkleidbmhaaGreatDoor
open Go.ChangeShapes Go.WideShapes Go.ChangeAt Go.Deep
open Go.RowKit Go.Nst
set_option maxRecDepth 100000
set_option linter.unusedVariables false
set_option linter.unusedSimpArgs false

def TermD (tm : List UInt8 → Option Qy) : Prop := ∀ (s : List UInt8) (w : World), s.length ≤ 512 → Calls Tryz.prog 73 #[.string ⟨s.toArray⟩] w (RetTm (tm s) w)
theorem PsD.nxt_len {w : World} {g : Nat} {S : Nat → Prop} {l : List Pt} {i : Nat} {e bad : Int} {A : Option Addr} {n c : Nat} (h : PsD w g S l i e bad A n c) : (nxt (l.drop i)).length ≤ 512 := by
  have hl := h.row.len
  by_cases hin : i < n
  · obtain ⟨p, b, off, HG, rfl, -, hb, h5, -, -⟩ := pt_at h.row hin
    rw [(nxt_get HG.out).1]
    exact h5.1
  · rw [List.drop_of_length_le (by omega)]
    simp [nxt]
theorem drop_lt {l : List Pt} {i n : Nat} (hl : l.length = n) (h : nxt (l.drop i) ≠ []) : i < n ∧ (l.drop (i + 1)).length + 1 = (l.drop i).length ∧ (l.drop i).tail = l.drop (i + 1) := by
  have h0 := ne_of_nxt h
  have : i < n := by
    rcases Nat.lt_or_ge i n with h1 | h1
    · exact h1
    · exact absurd (List.drop_of_length_le (by omega)) h0
  refine ⟨this, ?_, List.tail_drop⟩
  rw [List.length_drop, List.length_drop]
  omega
set_option maxHeartbeats 2000000 in
theorem rone26_bad (tm : List UInt8 → Option Qy) (f : Nat) (l : List Pt) (i : Nat) (w : World) (g : Nat) (S : Nat → Prop) (en : Int) (A : Option Addr) (n c : Nat) (hp : PsD w g S l i en (-1) A n c) (hst : stopO (l.drop i) = true) :
    Calls Tryz.prog 56 #[.pointer (some ⟨g, 0, none⟩)] w (RetPd w g S l en A n c (oneF tm f (l.drop i))) := by
  have B0 := Lib.hid (bel_alloc (Below.refl w.heap.size w) (.cells #[.int .i64 0, .int .i64 0, .string ⟨#[]⟩, .slice none 0 0] 25))
  have X0 := Lib.hid (Blk.new w 25 #[.int .i64 0, .int .i64 0, .string ⟨#[]⟩, .slice none 0 0])
  have hgl := hp.blk.lt
  have HOF := Lib.hid hp.off
  rw [oneF_stop tm hst]
  have HP0 := Lib.hid ((hp.wideS (S' := lowS S w) (fun b hb hlt => ⟨hb, hlt⟩) (fun hh => hp.off hh.1)).grown B0.out)
  have HN := Lib.hid (peek26_any _ g _ l i en (-1) A n c HP0.out)
  have hcs := stopO_cases hst
  generalize nxt (l.drop i) = x at *
  clear hst hp
  rcases hcs with rfl | rfl | rfl | rfl
  all_goals
    go_enter Tryz.func56, Tryz.ntmps56
    go_wp2_with fail
    (with_reducible refine (HN.out).mono ?_)
    rintro _ w2 ⟨rfl, hw2⟩
    have HP2 := Lib.hid (HP0.out.grown hw2)
    have HX2 := Lib.hid (X0.out.below hw2 X0.out.lt)
    have HFL := Lib.hid (rfail26_any _ g _ l i en A n c HP2.out)
    have HB2 := Lib.hid (bel_step B0.out hw2)
    clear hw2
    go_wp2_with fail
    (with_reducible refine (HFL.out).mono ?_)
    rintro _ w3 ⟨rfl, hp3, hg3, hpos⟩
    have HP3 := Lib.hid hp3
    have HG3 := Lib.hid hg3
    have HX3 := Lib.hid (HX2.out.grown hg3 (by simp; omega))
    obtain ⟨k0, k1, k2, k3, k4, k5⟩ := res_facts HX3.out
    have HPOS := Lib.hid hpos
    clear hp3 hg3 hpos
    go_wp2_with fail
    have y := set4 HX3.out (.int .i64 0) (.int .i64 0) (.string ⟨#[]⟩) (.slice none 0 0)
    have y0 := y.cell 0
    have y1 := y.cell 1
    have y2 := y.cell 2
    have y3 := y.cell 3
    simp at y0 y1 y2 y3
    try simp only [Exit.inBlock, Exit.then]
    refine bodyPost_ret (v := .agg #[.int .i64 0, .int .i64 0, .string ⟨#[]⟩, .slice none 0 0]) (by simp [results, Tryz.results56, go_sem, y0, y1, y2, y3]) rfl ?_
    exact ⟨_, .zero, i, _, rfl, QAt.zero26, ((HP3.out.keepR (grown4 _ w.heap.size _ _ _ _) (by omega) (fun h => Nat.lt_irrefl _ h.2))).wideS (fun b hb _ => hb.1) HOF.out, grown_set4 (grown_trans (grown_of HB2.out) HG3.out) (.inr (Nat.le_refl _)) _ _ _ _, .inr ⟨HPOS.out, _, rfl, rfl⟩⟩
set_option maxHeartbeats 4000000 in
theorem rone26_not (tm : List UInt8 → Option Qy) (f m : Nat) (H : MethD 56 (oneF tm f) m) (l : List Pt) (i : Nat) (w : World) (g : Nat) (S : Nat → Prop) (en : Int) (A : Option Addr) (n c : Nat) (hl : (l.drop i).length ≤ m + 1) (hp : PsD w g S l i en (-1) A n c) (hst : nxt (l.drop i) = tNot) :
    Calls Tryz.prog 56 #[.pointer (some ⟨g, 0, none⟩)] w (RetPd w g S l en A n c (oneF tm (f + 1) (l.drop i))) := by
  have B0 := Lib.hid (bel_alloc (Below.refl w.heap.size w) (.cells #[.int .i64 0, .int .i64 0, .string ⟨#[]⟩, .slice none 0 0] 25))
  have X0 := Lib.hid (Blk.new w 25 #[.int .i64 0, .int .i64 0, .string ⟨#[]⟩, .slice none 0 0])
  have hgl := hp.blk.lt
  have HOF := Lib.hid hp.off
  have hne : nxt (l.drop i) ≠ [] := by rw [hst]; decide
  obtain ⟨hin, hl1, htl⟩ := drop_lt hp.row.len hne
  have hidx := hp.idx.2
  have hp0 := (hp.wideS (S' := lowS S w) (fun b hb hlt => ⟨hb, hlt⟩) (fun hh => hp.off hh.1)).grown B0.out
  have HN := Lib.hid (peek26_any _ g _ l i en (-1) A n c hp0)
  rw [hst] at HN
  have HP0 := Lib.hid hp0
  have HH := Lib.hid H
  have HF : Hid (oneF tm (f + 1) (l.drop i) = match oneF tm f (l.drop (i + 1)) with | .bad r => .bad r | .ok q r => .ok ⟨5, 0, [], [q]⟩ r) := Lib.hid (by
    simp only [oneF, oneS, hst, htl]
    rfl)
  clear hp H hst hne hp0 htl
  go_enter Tryz.func56, Tryz.ntmps56
  go_wp2_with fail
  (with_reducible refine (HN.out).mono ?_)
  rintro _ w2 ⟨rfl, hw2⟩
  have hp0 := HP0.out.grown hw2
  have hp2 := hp0.setI (i + 1) hin
  have hg2 := only_setCell (p := ⟨g, 1, none⟩) (World.grownBy.refl w2 (some g)) (.inl rfl) (.int .i64 ((i : Int) + 1))
  rw [show ((i + 1 : Nat) : Int) = (i : Int) + 1 by omega] at hp2
  obtain ⟨q0, q1, q2, q3, q4, q5⟩ := psd_facts hp0
  have hw20 := hw2.size
  simp at hw20
  have HX2 := Lib.hid ((X0.out.below hw2 X0.out.lt).grown hg2 (by simp; omega))
  have HG2 := Lib.hid (grown_trans (grown_of (bel_step B0.out hw2)) hg2)
  have HC := Lib.hid (HH.out l (i + 1) _ g _ en A n c (by omega) hp2)
  clear hp0 hp2 hg2 hw2
  go_wp2_with fail
  (with_reducible refine (HC.out).mono ?_)
  rintro _ w3 ⟨vs, q, i3, bad3, rfl, hq3, hp3, hg3, hfit3⟩
  have HN25 := Lib.hid (Not25_any q vs w3 _ hq3)
  have hg30 := hg3.size
  try simp at hg30
  have HP3 := Lib.hid hp3
  have HG3 := Lib.hid hg3
  have HX3 := Lib.hid (HX2.out.grown hg3 (by simp; omega))
  have HFT := Lib.hid hfit3
  clear hq3 hp3 hg3 hfit3
  go_wp2_with fail
  (with_reducible refine (HN25.out).mono ?_)
  rintro _ w4 ⟨v4, rfl, hq4, hb4⟩
  have HQ4 := Lib.hid hq4
  obtain ⟨QB, qd, rfl, -, -, -, -, -, -⟩ := hq4.open_
  simp only [qV] at HQ4 ⊢
  have HB4 := Lib.hid hb4
  have hb40 := hb4.size
  have HX4 := Lib.hid (HX3.out.below hb4 HX3.out.lt)
  obtain ⟨k0, k1, k2, k3, k4, k5⟩ := res_facts HX4.out
  clear hq4 hb4
  generalize hsv : notQ q = sv at *
  go_wp2_with fail
  have y := set4 HX4.out (.int .i64 sv.op) (.int .i64 sv.n) (.string ⟨sv.s.toArray⟩) (.slice QB sv.kids.length qd)
  have y0 := y.cell 0
  have y1 := y.cell 1
  have y2 := y.cell 2
  have y3 := y.cell 3
  simp at y0 y1 y2 y3
  try simp only [Exit.inBlock, Exit.then]
  refine bodyPost_ret (v := .agg #[.int .i64 sv.op, .int .i64 sv.n, .string ⟨sv.s.toArray⟩, .slice QB sv.kids.length qd]) (by simp [results, Tryz.results56, go_sem, y0, y1, y2, y3]) rfl ?_
  refine ⟨_, sv, i3, bad3, rfl, ((HQ4.out.wide (S' := hiS w) (fun b hb _ => by show w.heap.size < b; (try simp at hb); omega)).set4 (g := w.heap.size) (Nat.lt_irrefl _) _ _ _ _).wide (fun b hb _ => Nat.le_of_lt hb), ((HP3.out.grown HB4.out).keepR (grown4 _ w.heap.size _ _ _ _) (by omega) (fun h => Nat.lt_irrefl _ h.2)).wideS (fun b hb _ => hb.1) HOF.out, ?_, ?_⟩
  · exact grown_set4 (grown_bel (grown_trans HG2.out HG3.out) HB4.out (by omega)) (.inr (Nat.le_refl _)) _ _ _ _
  · rw [HF.out, ← hsv]
    rcases HFT.out with ⟨e1, e2⟩ | ⟨e1, r0, e2, e3⟩
    · exact .inl ⟨e1, by rw [e2]; rfl⟩
    · exact .inr ⟨e1, r0, by rw [e2], e3⟩
set_option maxHeartbeats 8000000 in
theorem rone26_opn (tm : List UInt8 → Option Qy) (f m : Nat) (H : MethD 21 (qryF (oneF tm f)) m) (l : List Pt) (i : Nat) (w : World) (g : Nat) (S : Nat → Prop) (en : Int) (A : Option Addr) (n c : Nat) (hl : (l.drop i).length ≤ m + 1) (hp : PsD w g S l i en (-1) A n c) (hst : nxt (l.drop i) = tOpn) :
    Calls Tryz.prog 56 #[.pointer (some ⟨g, 0, none⟩)] w (RetPd w g S l en A n c (oneF tm (f + 1) (l.drop i))) := by
  have B0 := Lib.hid (bel_alloc (Below.refl w.heap.size w) (.cells #[.int .i64 0, .int .i64 0, .string ⟨#[]⟩, .slice none 0 0] 25))
  have X0 := Lib.hid (Blk.new w 25 #[.int .i64 0, .int .i64 0, .string ⟨#[]⟩, .slice none 0 0])
  have hgl := hp.blk.lt
  have HOF := Lib.hid hp.off
  have hne : nxt (l.drop i) ≠ [] := by rw [hst]; decide
  obtain ⟨hin, hl1, htl⟩ := drop_lt hp.row.len hne
  have hidx := hp.idx.2
  have hp0 := (hp.wideS (S' := lowS S w) (fun b hb hlt => ⟨hb, hlt⟩) (fun hh => hp.off hh.1)).grown B0.out
  have HN := Lib.hid (peek26_any _ g _ l i en (-1) A n c hp0)
  rw [hst] at HN
  have HP0 := Lib.hid hp0
  have HH := Lib.hid H
  have HF : Hid (oneF tm (f + 1) (l.drop i) = match qryF (oneF tm f) (l.drop (i + 1)) with | .bad r => .bad r | .ok q r => if nxt r == tCls then .ok q r.tail else .bad r) := Lib.hid (by
    simp only [oneF, oneS, hst, htl]
    rfl)
  clear hp H hst hne hp0 htl
  go_enter Tryz.func56, Tryz.ntmps56
  go_wp2_with fail
  (with_reducible refine (HN.out).mono ?_)
  rintro _ w2 ⟨rfl, hw2⟩
  have hp0 := HP0.out.grown hw2
  have hp2 := hp0.setI (i + 1) hin
  have hg2 := only_setCell (p := ⟨g, 1, none⟩) (World.grownBy.refl w2 (some g)) (.inl rfl) (.int .i64 ((i : Int) + 1))
  rw [show ((i + 1 : Nat) : Int) = (i : Int) + 1 by omega] at hp2
  obtain ⟨q0, q1, q2, q3, q4, q5⟩ := psd_facts hp0
  have hw20 := hw2.size
  simp at hw20
  have HX2 := Lib.hid ((X0.out.below hw2 X0.out.lt).grown hg2 (by simp; omega))
  have HG2 := Lib.hid (grown_trans (grown_of (bel_step B0.out hw2)) hg2)
  have HC := Lib.hid (HH.out l (i + 1) _ g _ en A n c (by omega) hp2)
  clear hp0 hp2 hg2 hw2
  go_wp2_with fail
  (with_reducible refine (HC.out).mono ?_)
  rintro _ w3 ⟨vs, q, i3, bad3, rfl, hq3, hp3, hg3, hfit3⟩
  have HQ3 := Lib.hid hq3
  obtain ⟨QB, qd, rfl, -, -, -, -, -, -⟩ := hq3.open_
  simp only [qV] at HQ3 ⊢
  have hg30 := hg3.size
  try simp at hg30
  have b3 := bel_alloc (Below.refl w3.heap.size w3) (.cells #[.int .i64 q.op, .int .i64 q.n, .string ⟨q.s.toArray⟩, .slice QB q.kids.length qd] 25)
  have HP3 := Lib.hid (hp3.grown b3)
  have HG3 := Lib.hid (grown_bel (grown_trans HG2.out hg3) b3 (by omega))
  have HX3 := Lib.hid ((HX2.out.grown hg3 (by simp; omega)).below b3 (by omega))
  have HY3 := Lib.hid (Blk.new w3 25 #[.int .i64 q.op, .int .i64 q.n, .string ⟨q.s.toArray⟩, .slice QB q.kids.length qd])
  have HQ4 := Lib.hid (HQ3.out.bel b3)
  obtain ⟨k0, k1, k2, k3, k4, k5⟩ := res_facts HY3.out
  obtain ⟨z0, z1, z2, z3, z4, z5⟩ := res_facts HX3.out
  obtain ⟨q0, q1, q2, q3, q4, q5⟩ := psd_facts HP3.out
  rcases hfit3 with ⟨rfl, e2⟩ | ⟨e1, r0, e2, e3⟩
  case inr =>
    have HFT : Hid (Fit (oneF tm (f + 1) (l.drop i)) q (l.drop i3) en bad3) := Lib.hid (.inr ⟨e1, r0, by rw [HF.out, e2], e3⟩)
    have d0 : decide (0 ≤ bad3) = true := by simpa using e1
    clear hq3 hp3 hg3 b3 e2 e3
    go_wp2_with fail
    have y := set4 HX3.out (.int .i64 q.op) (.int .i64 q.n) (.string ⟨q.s.toArray⟩) (.slice QB q.kids.length qd)
    have y0 := y.cell 0
    have y1 := y.cell 1
    have y2 := y.cell 2
    have y3 := y.cell 3
    simp at y0 y1 y2 y3
    try simp only [Exit.inBlock, Exit.then]
    refine bodyPost_ret (v := .agg #[.int .i64 q.op, .int .i64 q.n, .string ⟨q.s.toArray⟩, .slice QB q.kids.length qd]) (by simp [results, Tryz.results56, go_sem, y0, y1, y2, y3]) rfl ?_
    exact ⟨_, q, i3, bad3, rfl, ((HQ4.out.wide (S' := hiS w) (fun b hb _ => by show w.heap.size < b; (try simp at hb); omega)).set4 (g := w.heap.size) (Nat.lt_irrefl _) _ _ _ _).wide (fun b hb _ => Nat.le_of_lt hb), (HP3.out.keepR (grown4 _ w.heap.size _ _ _ _) (by omega) (fun h => Nat.lt_irrefl _ h.2)).wideS (fun b hb _ => hb.1) HOF.out, grown_set4 HG3.out (.inr (Nat.le_refl _)) _ _ _ _, HFT.out⟩
  case inl =>
    have HN2 := Lib.hid (peek26_any _ g _ l i3 en (-1) A n c HP3.out)
    have HFF : Hid (oneF tm (f + 1) (l.drop i) = if nxt (l.drop i3) == tCls then .ok q (l.drop i3).tail else .bad (l.drop i3)) := Lib.hid (by rw [HF.out, e2])
    have HDL := Lib.hid (fun h => drop_lt (i := i3) HP3.out.row.len h)
    obtain ⟨x, hx⟩ : ∃ x, x = nxt (l.drop i3) := ⟨_, rfl⟩
    rw [← hx] at HN2 HFF HDL
    clear hq3 hp3 hg3 b3 e2 hx
    cases hb : (x == tCls) with
    | false =>
      rw [hb, if_neg (by decide)] at HFF
      go_wp2_with fail
      (with_reducible refine (HN2.out).mono ?_)
      rintro _ w5 ⟨rfl, hw5⟩
      have HP3 := Lib.hid (HP3.out.grown hw5)
      have HX3 := Lib.hid (HX3.out.below hw5 HX3.out.lt)
      have HG3 := Lib.hid (grown_bel HG3.out hw5 (HG3.out.size))
      have HFL := Lib.hid (rfail26_any _ g _ l i3 en A n c HP3.out)
      clear hw5
      go_wp2_with fail
      (with_reducible refine (HFL.out).mono ?_)
      rintro _ w6 ⟨rfl, hp6, hg6, hpos⟩
      have HP6 := Lib.hid hp6
      have HG6 := Lib.hid hg6
      have HX6 := Lib.hid (HX3.out.grown hg6 (by simp; omega))
      obtain ⟨m0, m1, m2, m3, m4, m5⟩ := res_facts HX6.out
      have HPOS := Lib.hid hpos
      clear hp6 hg6 hpos
      go_wp2_with fail
      have y := set4 HX6.out (.int .i64 0) (.int .i64 0) (.string ⟨#[]⟩) (.slice none 0 0)
      have y0 := y.cell 0
      have y1 := y.cell 1
      have y2 := y.cell 2
      have y3 := y.cell 3
      simp at y0 y1 y2 y3
      try simp only [Exit.inBlock, Exit.then]
      refine bodyPost_ret (v := .agg #[.int .i64 0, .int .i64 0, .string ⟨#[]⟩, .slice none 0 0]) (by simp [results, Tryz.results56, go_sem, y0, y1, y2, y3]) rfl ?_
      exact ⟨_, .zero, i3, _, rfl, QAt.zero26, ((HP6.out.keepR (grown4 _ w.heap.size _ _ _ _) (by omega) (fun h => Nat.lt_irrefl _ h.2))).wideS (fun b hb _ => hb.1) HOF.out, grown_set4 (grown_trans HG3.out HG6.out) (.inr (Nat.le_refl _)) _ _ _ _, .inr ⟨HPOS.out, _, HFF.out, rfl⟩⟩
    | true =>
      rw [hb, if_pos rfl] at HFF
      have hx2 : x = tCls := by simpa using hb
      obtain ⟨hi3, -, htl3⟩ := HDL.out (by rw [hx2]; decide)
      have hidx3 := HP3.out.idx.2
      rw [htl3] at HFF
      clear htl3 hx2 HDL
      go_wp2_with fail
      (with_reducible refine (HN2.out).mono ?_)
      rintro _ w5 ⟨rfl, hw5⟩
      have hp3 := HP3.out.grown hw5
      have hx3 := HX3.out.below hw5 HX3.out.lt
      have hy3 := HY3.out.below hw5 HY3.out.lt
      have hq3 := HQ4.out.bel hw5
      have hg3 := grown_bel HG3.out hw5 (HG3.out.size)
      obtain ⟨q0, q1, q2, q3, q4, q5⟩ := psd_facts hp3
      have HP7 := Lib.hid (hp3.setI (i3 + 1) hi3)
      have hg7 := only_setCell (p := ⟨g, 1, none⟩) (World.grownBy.refl w5 (some g)) (.inl rfl) (.int .i64 ((i3 : Int) + 1))
      rw [show ((i3 + 1 : Nat) : Int) = (i3 : Int) + 1 by omega] at HP7
      have HG7 := Lib.hid (grown_trans hg3 hg7)
      have HX7 := Lib.hid (hx3.grown hg7 (by simp; omega))
      have HY7 := Lib.hid (hy3.grown hg7 (by simp; omega))
      have HQ7 := Lib.hid (hq3.grown hg7 (fun k hk hh => by injection hk with hk; subst hk; (try simp at hh); omega))
      obtain ⟨m0, m1, m2, m3, m4, m5⟩ := res_facts HX7.out
      obtain ⟨n0, n1, n2, n3, n4, n5⟩ := res_facts HY7.out
      clear hg7 hp3 hx3 hy3 hq3 hg3 hw5
      go_wp2_with fail
      have y := set4 HX7.out (.int .i64 q.op) (.int .i64 q.n) (.string ⟨q.s.toArray⟩) (.slice QB q.kids.length qd)
      have y0 := y.cell 0
      have y1 := y.cell 1
      have y2 := y.cell 2
      have y3 := y.cell 3
      simp at y0 y1 y2 y3
      try simp only [Exit.inBlock, Exit.then]
      refine bodyPost_ret (v := .agg #[.int .i64 q.op, .int .i64 q.n, .string ⟨q.s.toArray⟩, .slice QB q.kids.length qd]) (by simp [results, Tryz.results56, go_sem, y0, y1, y2, y3]) rfl ?_
      exact ⟨_, q, i3 + 1, -1, rfl, ((HQ7.out.wide (S' := hiS w) (fun b hb _ => by show w.heap.size < b; (try simp at hb); omega)).set4 (g := w.heap.size) (Nat.lt_irrefl _) _ _ _ _).wide (fun b hb _ => Nat.le_of_lt hb), (HP7.out.keepR (grown4 _ w.heap.size _ _ _ _) (by omega) (fun h => Nat.lt_irrefl _ h.2)).wideS (fun b hb _ => hb.1) HOF.out, grown_set4 HG7.out (.inr (Nat.le_refl _)) _ _ _ _, .inl ⟨rfl, HFF.out⟩⟩
set_option maxHeartbeats 8000000 in
theorem rone26_term (tm : List UInt8 → Option Qy) (HTM : TermD tm) (f : Nat) (l : List Pt) (i : Nat) (w : World) (g : Nat) (S : Nat → Prop) (en : Int) (A : Option Addr) (n c : Nat) (hp : PsD w g S l i en (-1) A n c) (h0 : ¬ stopO (l.drop i) = true) (h1 : (nxt (l.drop i) == tNot) = false) (h2 : (nxt (l.drop i) == tOpn) = false) :
    Calls Tryz.prog 56 #[.pointer (some ⟨g, 0, none⟩)] w (RetPd w g S l en A n c (oneF tm (f + 1) (l.drop i))) := by
  have B0 := Lib.hid (bel_alloc (Below.refl w.heap.size w) (.cells #[.int .i64 0, .int .i64 0, .string ⟨#[]⟩, .slice none 0 0] 25))
  have X0 := Lib.hid (Blk.new w 25 #[.int .i64 0, .int .i64 0, .string ⟨#[]⟩, .slice none 0 0])
  have hgl := hp.blk.lt
  have HOF := Lib.hid hp.off
  obtain ⟨e1, e2, e3, e4⟩ := stopO_not h0
  have hne : nxt (l.drop i) ≠ [] := by simpa using e1
  obtain ⟨hin, hl1, htl⟩ := drop_lt hp.row.len hne
  have hidx := hp.idx.2
  have HP0 := Lib.hid ((hp.wideS (S' := lowS S w) (fun b hb hlt => ⟨hb, hlt⟩) (fun hh => hp.off hh.1)).grown B0.out)
  have HN := Lib.hid (peek26_any _ g _ l i en (-1) A n c HP0.out)
  have HF : Hid (oneF tm (f + 1) (l.drop i) = match tm (nxt (l.drop i)) with | some q => .ok q (l.drop (i + 1)) | none => .bad (l.drop i)) := Lib.hid (by
    have h0' := h0
    unfold stopO at h0'
    simp only [oneF, oneS, htl]
    rw [if_neg h0', h1, h2]
    rfl)
  have HC := Lib.hid (fun W => HTM (nxt (l.drop i)) W hp.nxt_len)
  obtain ⟨x, hx⟩ : ∃ x, x = nxt (l.drop i) := ⟨_, rfl⟩
  rw [← hx] at HN HF HC e1 e2 e3 e4 h1 h2
  clear hp hx h0 hne htl hl1
  go_enter Tryz.func56, Tryz.ntmps56
  go_wp2_with fail
  (with_reducible refine (HN.out).mono ?_)
  rintro _ w2 ⟨rfl, hw2⟩
  have HP0 := Lib.hid (HP0.out.grown hw2)
  have X0 := Lib.hid (X0.out.below hw2 X0.out.lt)
  have B0 := Lib.hid (bel_step B0.out hw2)
  have hw20 := hw2.size
  simp at hw20
  clear hw2
  go_wp2_with fail
  (with_reducible refine (HC.out _).mono ?_)
  rintro _ w3 ⟨q, vs, rfl, hq3, hb3, he3⟩
  have HQ3 := Lib.hid hq3
  obtain ⟨QB, qd, rfl, -, -, -, -, -, -⟩ := hq3.open_
  simp only [qV] at HQ3 ⊢
  have hg30 := hb3.size
  try simp at hg30
  have b3 := bel_alloc (Below.refl w3.heap.size w3) (.cells #[.int .i64 q.op, .int .i64 q.n, .string ⟨q.s.toArray⟩, .slice QB q.kids.length qd] 25)
  have HP3 := Lib.hid ((HP0.out.grown hb3).grown b3)
  have HG3 := Lib.hid (grown_of (g := g) (bel_step B0.out (bel_step hb3 b3)))
  have HX3 := Lib.hid ((X0.out.below hb3 X0.out.lt).below b3 (by omega))
  have HY3 := Lib.hid (Blk.new w3 25 #[.int .i64 q.op, .int .i64 q.n, .string ⟨q.s.toArray⟩, .slice QB q.kids.length qd])
  have HQ4 := Lib.hid (HQ3.out.bel b3)
  have HE3 := Lib.hid he3
  obtain ⟨k0, k1, k2, k3, k4, k5⟩ := res_facts HY3.out
  obtain ⟨q0, q1, q2, q3, q4, q5⟩ := psd_facts HP3.out
  clear hq3 hb3 b3 he3
  cases ht : tm x with
  | none =>
    have HFL := Lib.hid (rfail26_any _ g _ l i en A n c HP3.out)
    rw [ht] at HF
    go_wp2_with fail
    (with_reducible refine (HFL.out).mono ?_)
    rintro _ w6 ⟨rfl, hp6, hg6, hpos⟩
    have HP6 := Lib.hid hp6
    have HG6 := Lib.hid hg6
    have HX6 := Lib.hid (HX3.out.grown hg6 (by simp; omega))
    obtain ⟨m0, m1, m2, m3, m4, m5⟩ := res_facts HX6.out
    have HPOS := Lib.hid hpos
    clear hp6 hg6 hpos
    go_wp2_with fail
    have y := set4 HX6.out (.int .i64 0) (.int .i64 0) (.string ⟨#[]⟩) (.slice none 0 0)
    have y0 := y.cell 0
    have y1 := y.cell 1
    have y2 := y.cell 2
    have y3 := y.cell 3
    simp at y0 y1 y2 y3
    try simp only [Exit.inBlock, Exit.then]
    refine bodyPost_ret (v := .agg #[.int .i64 0, .int .i64 0, .string ⟨#[]⟩, .slice none 0 0]) (by simp [results, Tryz.results56, go_sem, y0, y1, y2, y3]) rfl ?_
    exact ⟨_, .zero, i, _, rfl, QAt.zero26, ((HP6.out.keepR (grown4 _ w.heap.size _ _ _ _) (by omega) (fun h => Nat.lt_irrefl _ h.2))).wideS (fun b hb _ => hb.1) HOF.out, grown_set4 (grown_trans HG3.out HG6.out) (.inr (Nat.le_refl _)) _ _ _ _, .inr ⟨HPOS.out, _, HF.out, rfl⟩⟩
  | some q' =>
    obtain rfl := HE3.out q' ht
    rw [ht] at HF
    have HP7 := Lib.hid (HP3.out.setI (i + 1) hin)
    have hg7 := only_setCell (p := ⟨g, 1, none⟩) (World.grownBy.refl (w3.alloc (.cells #[.int .i64 q'.op, .int .i64 q'.n, .string ⟨q'.s.toArray⟩, .slice QB q'.kids.length qd] 25)) (some g)) (.inl rfl) (.int .i64 ((i : Int) + 1))
    rw [show ((i + 1 : Nat) : Int) = (i : Int) + 1 by omega] at HP7
    have HG7 := Lib.hid hg7
    have HX7 := Lib.hid (HX3.out.grown hg7 (by simp; omega))
    have HY7 := Lib.hid (HY3.out.grown hg7 (by simp; omega))
    have HQ7 := Lib.hid (HQ4.out.grown hg7 (fun k hk hh => by injection hk with hk; subst hk; (try simp at hh); omega))
    obtain ⟨m0, m1, m2, m3, m4, m5⟩ := res_facts HX7.out
    obtain ⟨n0, n1, n2, n3, n4, n5⟩ := res_facts HY7.out
    clear hg7
    go_wp2_with fail
    have y := set4 HX7.out (.int .i64 q'.op) (.int .i64 q'.n) (.string ⟨q'.s.toArray⟩) (.slice QB q'.kids.length qd)
    have y0 := y.cell 0
    have y1 := y.cell 1
    have y2 := y.cell 2
    have y3 := y.cell 3
    simp at y0 y1 y2 y3
    try simp only [Exit.inBlock, Exit.then]
    refine bodyPost_ret (v := .agg #[.int .i64 q'.op, .int .i64 q'.n, .string ⟨q'.s.toArray⟩, .slice QB q'.kids.length qd]) (by simp [results, Tryz.results56, go_sem, y0, y1, y2, y3]) rfl ?_
    exact ⟨_, q', i + 1, -1, rfl, ((HQ7.out.wide (S' := hiS w) (fun b hb _ => by show w.heap.size < b; (try simp at hb); omega)).set4 (g := w.heap.size) (Nat.lt_irrefl _) _ _ _ _).wide (fun b hb _ => Nat.le_of_lt hb), (HP7.out.keepR (grown4 _ w.heap.size _ _ _ _) (by omega) (fun h => Nat.lt_irrefl _ h.2)).wideS (fun b hb _ => hb.1) HOF.out, grown_set4 (grown_trans HG3.out HG7.out) (.inr (Nat.le_refl _)) _ _ _ _, .inl ⟨rfl, HF.out⟩⟩
theorem rone26_step (tm : List UInt8 → Option Qy) (HTM : TermD tm) (f m : Nat) (H1 : MethD 56 (oneF tm f) m) (H2 : MethD 21 (qryF (oneF tm f)) m) : MethD 56 (oneF tm (f + 1)) (m + 1) := by
  intro l i w g S en A n c hl hp
  by_cases h0 : stopO (l.drop i) = true
  · exact rone26_bad tm (f + 1) l i w g S en A n c hp h0
  cases h1 : (nxt (l.drop i) == tNot) with
  | true => exact rone26_not tm f m H1 l i w g S en A n c hl hp (by simpa using h1)
  | false =>
    cases h2 : (nxt (l.drop i) == tOpn) with
    | true => exact rone26_opn tm f m H2 l i w g S en A n c hl hp (by simpa using h2)
    | false => exact rone26_term tm HTM f l i w g S en A n c hp h0 h1 h2
theorem rone26_any (tm : List UInt8 → Option Qy) (HTM : TermD tm) : ∀ m, m ≤ 600 → MethD 56 (oneF tm m) m
  | 0, _ => by
    intro l i w g S en A n c hl hp
    have h0 : l.drop i = [] := List.eq_nil_of_length_eq_zero (by omega)
    exact rone26_bad tm 0 l i w g S en A n c hp (by rw [h0]; rfl)
  | m + 1, hm => by
    have H1 := rone26_any tm HTM m (by omega)
    exact rone26_step tm HTM m m H1 (rquery26_any _ m (by omega) (allF_eats (oneF_eats tm m)) (rall26_any _ m (by omega) (oneF_eats tm m) H1))
theorem rqry26_any (tm : List UInt8 → Option Qy) (HTM : TermD tm) (m : Nat) (hm : m ≤ 600) : MethD 21 (qryF (oneF tm m)) m :=
  rquery26_any _ m hm (allF_eats (oneF_eats tm m)) (rall26_any _ m hm (oneF_eats tm m) (rone26_any tm HTM m hm))
end Go.Proofs.YtjjlmkleidbmhaaGreatDoor
end
