/-
  A query that may be has a shape; Norm; the document's pushed (printed by gen_qtl.py).
-/
import Derived.Test.YtjnhhdkphcbflaaQtK
import Derived.Test.YtjnhhdkphcbflaaOrd
import Derived.Deep.DeepCutAuto
import Derived.Deep.CutBlock
namespace Go.Proofs.Ytjnhhdkphcbflaa
open Go.RowKit Go.Nst
set_option maxRecDepth 100000
set_option linter.unusedVariables false
set_option linter.unusedSimpArgs false

theorem plaQ_shp (q : Qy) : plaQ q = true → Shp q := by
  refine Qy.ind (p := fun q => plaQ q = true → Shp q) ?_ q
  intro o n s l ih h
  simp only [plaQ, Bool.and_eq_true, plaL_all, List.all_eq_true] at h
  obtain ⟨h1, h2⟩ := h
  have hl : ∀ k ∈ l, Shp k := fun k hk => ih k hk (h2 k hk)
  simp only [oneQ, Bool.and_eq_true, decide_eq_true_eq] at h1
  obtain ⟨⟨⟨ho, hn⟩, ht⟩, hk⟩ := h1
  by_cases h34 : o = 3 ∨ o = 4
  · have e1 : n = 0 := by unfold numQ at hn; rw [if_neg (by omega), if_neg (by omega), if_neg (by omega), if_neg (by omega)] at hn; simpa using hn
    have e2 : s = [] := by unfold txtQ at ht; rw [if_neg (by omega), if_neg (by omega)] at ht; simpa using ht
    subst e1
    subst e2
    exact .many h34 hl
  · by_cases h5 : o = 5
    · subst h5
      have e1 : n = 0 := by simpa [numQ] using hn
      have e2 : s = [] := by simpa [txtQ] using ht
      have e3 : l.length = 1 := by simpa [kidQ] using hk
      subst e1
      subst e2
      match l, e3, hl with
      | [k], _, hl => exact .nt (hl k (by simp))
    · have e3 : l = [] := by
        unfold kidQ at hk
        rw [if_neg h34, if_neg h5] at hk
        simpa using hk
      subst e3
      refine .leaf (by omega) (by omega) h5 fun h12 => ?_
      have e1 : n = 0 := by unfold numQ at hn; rw [if_neg (by omega), if_neg (by omega), if_neg (by omega), if_neg (by omega)] at hn; simpa using hn
      have e2 : s = [] := by unfold txtQ at ht; rw [if_neg (by omega), if_neg (by omega)] at ht; simpa using ht
      exact ⟨e1, e2⟩
theorem okQ_parts {q : Qy} (h : okQ q = true) : Shp q ∧ htQ q ≤ 12 ∧ nodQ q ≤ 64 := by
  unfold okQ at h
  simp only [Bool.and_eq_true, decide_eq_true_eq] at h
  obtain ⟨⟨h1, h2⟩, h3⟩ := h
  have := ht_dep q 1 (by omega)
  exact ⟨plaQ_shp q h3, by omega, h2⟩
/-- a query and an error -/
def RetQN (w : World) (S : Nat → Prop) (ok : Bool) (q : Qy) (e : Ending) (w' : World) : Prop := ∃ vs, e = .returned (.tuple #[.agg vs, errV ok]) ∧ QAt w' (fun b => S b ∨ w.heap.size ≤ b) vs q ∧ Below w.heap.size w w'
set_option maxHeartbeats 2000000 in
theorem Norm25_yes (q : Qy) (ha : Ask q) (hok : okQ q = true) (vs : Array Value) (w : World) (S : Nat → Prop) (hq : QAt w S vs q) : Calls Try.prog 17 #[.agg vs] w (RetQN w S true (normQ q false)) := by
  obtain ⟨hsh, hht, hnd⟩ := okQ_parts hok
  have B0 := bel_alloc (bel_alloc (Below.refl w.heap.size w) (.cells vs 24)) (.cells #[.int .i64 0, .int .i64 0, .string ⟨#[]⟩, .slice none 0 0] 24)
  have HX0 := Lib.hid ((Blk.new w 24 vs).alloc (.cells #[.int .i64 0, .int .i64 0, .string ⟨#[]⟩, .slice none 0 0] 24))
  have Y0 := Blk.new (w.alloc (.cells vs 24)) 24 #[.int .i64 0, .int .i64 0, .string ⟨#[]⟩, .slice none 0 0]
  rw [show (w.alloc (.cells vs 24)).heap.size = w.heap.size + 1 by simp] at Y0
  have HY0 := Lib.hid Y0
  have HC := Lib.hid (Check25_any q ha vs _ S (hq.bel B0))
  rw [hok] at HC
  have HQ0 := Lib.hid (show QAt w (fun b => S b ∧ b < w.heap.size) vs q from hq.wide fun b h lt => ⟨h, lt⟩)
  have HN := Lib.hid (fun W hW => norm25_any q hsh false vs W (fun b => S b ∧ b < w.heap.size) (by omega) (by omega) hW)
  generalize normQ q false = R at *
  obtain ⟨A, c, rfl, -, -, -, -, -, -⟩ := hq.open_
  clear hq hsh hok ha Y0 hht hnd
  have HE : Hid (errV true = .int .i64 0) := Lib.hid rfl
  rw [HE.out] at HC
  simp only [qV] at *
  go_enter Try.func17, Try.ntmps17
  go_wp2_with fail
  (with_reducible refine (HC.out).mono ?_)
  rintro e w1 ⟨rfl, hb1⟩
  have B1 := bel_step B0 hb1
  have HX1 := Lib.hid (HX0.out.below hb1 HX0.out.lt)
  have HY1 := Lib.hid (HY0.out.below hb1 HY0.out.lt)
  have HQ1 := Lib.hid (HQ0.out.bel B1)
  obtain ⟨x0, x1, x2, x3⟩ := box_facts HX1.out
  go_wp2_with fail
  (with_reducible refine (HN.out _ HQ1.out).mono ?_)
  rintro e w2 ⟨v2, rfl, hq2, hb2⟩
  have B2 := bel_step B1 hb2
  have HQ2 := Lib.hid hq2
  obtain ⟨A2, c2, rfl, -, -, -, -, -, -⟩ := hq2.open_
  have hx2 := HY1.out.below hb2 HY1.out.lt
  obtain ⟨r0, r1, r2, r3, r4, r5⟩ := res_facts hx2
  have hz := set4 hx2 (.int .i64 R.op) (.int .i64 R.n) (.string ⟨R.s.toArray⟩) (.slice A2 R.kids.length c2)
  have HZ := Lib.hid (res_facts hz)
  have hsz1 := hb1.size
  clear hq2 hz hx2 x0 x1 x2 x3
  simp only [qV] at *
  go_wp2_with fail
  obtain ⟨y0, y1, y2, y3, -, -⟩ := HZ.out
  refine bodyPost_ret (v := .tuple #[.agg #[.int .i64 R.op, .int .i64 R.n, .string ⟨R.s.toArray⟩, .slice A2 R.kids.length c2], .int .i64 0]) (by simp [results, Try.results17, go_sem, y0, y1, y2, y3]) rfl ⟨_, by rw [HE.out], ?_, bel4 B2 (by omega) _ _ _ _⟩
  exact (HQ2.out.set4 (by simp at hsz1 ⊢; omega) _ _ _ _).wide (fun b h _ => h.elim (fun h => .inl h.1) (fun h => .inr (by simp at hsz1; omega)))
set_option maxHeartbeats 2000000 in
theorem Norm25_no (q : Qy) (ha : Ask q) (hok : okQ q = false) (vs : Array Value) (w : World) (S : Nat → Prop) (hq : QAt w S vs q) : Calls Try.prog 17 #[.agg vs] w (RetQN w S false .zero) := by
  have B0 := bel_alloc (bel_alloc (Below.refl w.heap.size w) (.cells vs 24)) (.cells #[.int .i64 0, .int .i64 0, .string ⟨#[]⟩, .slice none 0 0] 24)
  have Y0 := Blk.new (w.alloc (.cells vs 24)) 24 #[.int .i64 0, .int .i64 0, .string ⟨#[]⟩, .slice none 0 0]
  rw [show (w.alloc (.cells vs 24)).heap.size = w.heap.size + 1 by simp] at Y0
  have HY0 := Lib.hid Y0
  have HC := Lib.hid (Check25_any q ha vs _ S (hq.bel B0))
  rw [hok] at HC
  obtain ⟨A, c, rfl, -, -, -, -, -, -⟩ := hq.open_
  clear hq hok ha Y0
  have HE : Hid (errV false = .int .i64 250) := Lib.hid rfl
  rw [HE.out] at HC
  simp only [qV] at *
  go_enter Try.func17, Try.ntmps17
  go_wp2_with fail
  (with_reducible refine (HC.out).mono ?_)
  rintro e w1 ⟨rfl, hb1⟩
  have B1 := bel_step B0 hb1
  have hx2 := HY0.out.below hb1 HY0.out.lt
  obtain ⟨r0, r1, r2, r3, r4, r5⟩ := res_facts hx2
  have hz := set4 hx2 (.int .i64 0) (.int .i64 0) (.string ⟨#[]⟩) (.slice none 0 0)
  have HZ := Lib.hid (res_facts hz)
  clear hz hx2
  go_wp2_with fail
  obtain ⟨y0, y1, y2, y3, -, -⟩ := HZ.out
  exact bodyPost_ret (v := .tuple #[.agg #[.int .i64 0, .int .i64 0, .string ⟨#[]⟩, .slice none 0 0], .int .i64 250]) (by simp [results, Try.results17, go_sem, y0, y1, y2, y3]) rfl ⟨_, by rw [HE.out], QAt.leaf (s := []) (i64P_lit (by omega)) (i64P_lit (by omega)) (by simp), bel4 B1 (by omega) _ _ _ _⟩

def pushP (q : Qy) : Prop := Shp q → ∀ (b : Bool) (vs : Array Value) (w : World) (S : Nat → Prop), nodQ q ≤ 1000 → QAt w S vs q → Calls Try.prog 32 #[.agg vs, .bool b] w (RetQ w S (pushQ q b))
theorem laterB {w : World} {B : Nat} {p : Addr} {u : Value} (h : w.cell? p = some u) (hp : p.block < B) : ∀ W, Below B w W → W.cell? p = some u := fun W hW => (hW.cell hp).trans h
set_option maxHeartbeats 8000000 in
theorem pushed25_any (q : Qy) : pushP q := by
  refine Qy.ind (p := pushP) ?_ q
  intro o n s l ih hshp b vs w S hnd hq
  have HQ := Lib.hid hq
  obtain ⟨A, c, rfl, hio, hin, hs, hc1, hc2, hk⟩ := hq.open_
  simp only [Qy.op, Qy.n, Qy.s, Qy.kids] at *
  have B0 := bel_alloc (bel_alloc (Below.refl w.heap.size w) (.cells (qV o n s A l.length c) 24)) (.cells #[.int .i64 0, .int .i64 0, .string ⟨#[]⟩, .slice none 0 0] 24)
  have X0 := (Blk.new w 24 (qV o n s A l.length c)).alloc (.cells #[.int .i64 0, .int .i64 0, .string ⟨#[]⟩, .slice none 0 0] 24)
  have Y0 := Blk.new (w.alloc (.cells (qV o n s A l.length c) 24)) 24 #[.int .i64 0, .int .i64 0, .string ⟨#[]⟩, .slice none 0 0]
  rw [show (w.alloc (.cells (qV o n s A l.length c) 24)).heap.size = w.heap.size + 1 by simp] at Y0
  have hI := ih
  by_cases h5 : o = 5
  · subst h5
    cases hshp with
    | leaf _ _ h => exact absurd rfl h
    | many h => omega
    | nt hk5 =>
      rename_i k
      have hr : pushQ ⟨5, 0, [], [k]⟩ b = pushQ k (!b) := by simp only [pushQ, pushH, if_true]
      rw [hr]
      obtain ⟨q, B, cq, bb, off, hg, rfl, -, hbs, hq', g1, g2, g3, g4, g5, f0, f1, f2, f3⟩ := hk.at (show 0 < 1 by omega)
      have hkq : k = q := by simpa using hg.out
      subst hkq
      have hn1 : nodQ ⟨5, 0, [], [k]⟩ = 1 + nodQ k := by simp [nodQ, nodL]
      rw [Nat.zero_mul, Nat.add_zero] at f0 f1 f2 f3
      have HC := Lib.hid (hI k (by simp) hk5 (!b) _ _ _ (by omega) ((hq'.out.wide (S' := fun b => S b ∧ b < w.heap.size) (fun b h lt => ⟨h, lt⟩)).bel B0))
      have HX := Lib.hid Y0
      clear ih hI HQ hg hq' X0 Y0 hq hr hn1 hk
      simp only [qV, List.length_cons, List.length_nil, Nat.zero_add] at *
      go_enter Try.func32, Try.ntmps32
      go_wp2_with fail
      (with_reducible refine (HC.out).mono ?_)
      rintro e w2 ⟨v2, rfl, hq2, hb2⟩
      have B2 := bel_step B0 hb2
      have HQ2 := Lib.hid hq2
      obtain ⟨A2, c2, rfl, -, -, -, -, -, -⟩ := hq2.open_
      have hx2 := HX.out.below hb2 HX.out.lt
      obtain ⟨r0, r1, r2, r3, r4, r5⟩ := res_facts hx2
      have hz := set4 hx2 (.int .i64 (pushQ k (!b)).op) (.int .i64 (pushQ k (!b)).n) (.string ⟨(pushQ k (!b)).s.toArray⟩) (.slice A2 (pushQ k (!b)).kids.length c2)
      have HZ := Lib.hid (res_facts hz)
      clear hq2 hz hx2
      simp only [qV] at *
      generalize pushQ k (!b) = R at *
      go_wp2_with fail
      obtain ⟨y0, y1, y2, y3, -, -⟩ := HZ.out
      refine bodyPost_ret (v := .agg #[.int .i64 R.op, .int .i64 R.n, .string ⟨R.s.toArray⟩, .slice A2 R.kids.length c2]) (by simp [results, Try.results32, go_sem, y0, y1, y2, y3]) rfl ⟨_, rfl, ?_, bel4 B2 (by omega) _ _ _ _⟩
      exact (HQ2.out.set4 (by simp) _ _ _ _).wide (fun b h _ => h.elim (fun h => .inl h.1) (fun h => .inr (by simp at h; omega)))
  have b5 : (o == 5) = false := by simpa using h5
  by_cases hN : b = true ∧ ¬ (o = 1 ∨ o = 2 ∨ o = 3 ∨ o = 4)
  · obtain ⟨rfl, h14⟩ := hN
    have e1 : (o == 1) = false := by simp; omega
    have e2 : (o == 2) = false := by simp; omega
    have e3 : (o == 3) = false := by simp; omega
    have e4 : (o == 4) = false := by simp; omega
    have hr : pushQ ⟨o, n, s, l⟩ true = notQ ⟨o, n, s, l⟩ := by simp only [pushQ, if_neg h5, if_neg h14, Bool.true_eq_false, if_false]
    rw [hr]
    have HC := Lib.hid (Not25_any ⟨o, n, s, l⟩ (qV o n s A l.length c) _ _ ((HQ.out.wide (S' := fun b => S b ∧ b < w.heap.size) (fun b h lt => ⟨h, lt⟩)).bel B0))
    have HX := Lib.hid Y0
    clear ih hI HQ X0 Y0 hq hr hk hshp h14
    generalize notQ ⟨o, n, s, l⟩ = R at *
    simp only [qV] at *
    go_enter Try.func32, Try.ntmps32
    go_wp2_with fail
    (with_reducible refine (HC.out).mono ?_)
    rintro e w2 ⟨v2, rfl, hq2, hb2⟩
    have B2 := bel_step B0 hb2
    have HQ2 := Lib.hid hq2
    obtain ⟨A2, c2, rfl, -, -, -, -, -, -⟩ := hq2.open_
    have hx2 := HX.out.below hb2 HX.out.lt
    obtain ⟨r0, r1, r2, r3, r4, r5⟩ := res_facts hx2
    have hz := set4 hx2 (.int .i64 R.op) (.int .i64 R.n) (.string ⟨R.s.toArray⟩) (.slice A2 R.kids.length c2)
    have HZ := Lib.hid (res_facts hz)
    clear hq2 hz hx2
    simp only [qV] at *
    go_wp2_with fail
    obtain ⟨y0, y1, y2, y3, -, -⟩ := HZ.out
    refine bodyPost_ret (v := .agg #[.int .i64 R.op, .int .i64 R.n, .string ⟨R.s.toArray⟩, .slice A2 R.kids.length c2]) (by simp [results, Try.results32, go_sem, y0, y1, y2, y3]) rfl ⟨_, rfl, ?_, bel4 B2 (by omega) _ _ _ _⟩
    exact (HQ2.out.set4 (by simp) _ _ _ _).wide (fun b h _ => h.elim (fun h => .inl h.1) (fun h => .inr (by simp at h; omega)))
  obtain ⟨o', ho'⟩ : ∃ o', (if b = true then otherO o else o) = o' := ⟨_, rfl⟩
  have hio' : i64P o' := by
    rw [← ho']
    split
    · unfold otherO; exact ⟨by (repeat' split) <;> omega, by (repeat' split) <;> omega⟩
    · exact hio
  have hr : pushQ ⟨o, n, s, l⟩ b = ⟨o', n, s, pushL l b⟩ := by
    rw [← ho']
    cases b with
    | false => simp only [pushQ, if_neg h5, if_true, Bool.false_eq_true, if_false]
    | true =>
      have h14 : o = 1 ∨ o = 2 ∨ o = 3 ∨ o = 4 := by
        rcases Classical.em (o = 1 ∨ o = 2 ∨ o = 3 ∨ o = 4) with h | h
        · exact h
        · exact absurd ⟨rfl, h⟩ hN
      simp only [pushQ, if_neg h5, Bool.true_eq_false, if_false, if_pos h14, if_true]
  rw [hr]
  have hkS : ∀ k ∈ l, Shp k := by
    cases hshp with
    | leaf => intro k hk; cases hk
    | nt => exact absurd rfl h5
    | many _ h => exact h
  have hnk : nodQ ⟨o, n, s, l⟩ = 1 + nodL l 0 := nodQ_kids _
  have hnd2 : ∀ k ∈ l, nodQ k ≤ 1000 := fun k hk => by have := nodL_mem l 0 k hk; omega
  have hlen : l.length ≤ 1000 := by have := nodL_length l 0; omega
  have HI := Lib.hid (fun k hk => hI k hk (hkS k hk) b)
  have HH := Lib.hid hnd2
  have HK := Lib.hid (show QsAt w (fun b => S b ∧ b < w.heap.size) A l.length l from hk.wide fun b h hlt => ⟨h, hlt⟩)
  have HX0 := Lib.hid X0
  have HY0 := Lib.hid Y0
  have HO' := Lib.hid ho'
  have HNB := Lib.hid hN
  clear ih hI HQ X0 Y0 hq hr hk hnk hnd2 hkS hshp hnd hN ho'
  simp only [qV] at B0 ⊢
  go_enter Try.func32, Try.ntmps32
  go_upto_if 20 with fail
  go_cut [5] (fun v wx => v = .int .i64 o' ∧ wx = (w.alloc (.cells (qV o n s A l.length c) 24)).alloc (.cells #[.int .i64 0, .int .i64 0, .string ⟨#[]⟩, .slice none 0 0] 24))
  case first =>
    cases b with
    | false =>
      have HE : Hid (o = o') := Lib.hid (by rw [← HO'.out]; rfl)
      go_wp2_with fail
      go_meet
      exact ⟨by rw [HE.out], rfl⟩
    | true =>
      have h14 : o = 1 ∨ o = 2 ∨ o = 3 ∨ o = 4 := by
        rcases Classical.em (o = 1 ∨ o = 2 ∨ o = 3 ∨ o = 4) with h | h
        · exact h
        · exact absurd ⟨rfl, h⟩ HNB.out
      have HE : Hid (otherO o = o') := Lib.hid (by rw [← HO'.out]; rfl)
      rcases h14 with rfl | rfl | rfl | rfl
      all_goals
        go_wp2_with fail
        go_meet
        exact ⟨by rw [← HE.out]; rfl, rfl⟩
  case rest =>
    obtain ⟨rfl, rfl⟩ := hcut
    simp only [qV]
    have O0 := Blk.new ((w.alloc (.cells (qV o n s A l.length c) 24)).alloc (.cells #[.int .i64 0, .int .i64 0, .string ⟨#[]⟩, .slice none 0 0] 24)) 24 #[.int .i64 o', .int .i64 n, .string ⟨s.toArray⟩, .slice none 0 0]
    rw [show ((w.alloc (.cells (qV o n s A l.length c) 24)).alloc (.cells #[.int .i64 0, .int .i64 0, .string ⟨#[]⟩, .slice none 0 0] 24)).heap.size = w.heap.size + 2 by simp] at O0
    have HO0 := Lib.hid O0
    clear O0
    go_wp2_with fail
    go_loopw [7] (fun i wr => ∃ (k : Nat) (A' : Option Addr) (c' : Nat), k ≤ l.length ∧ i = .int .i64 k ∧ Oq wr (w.heap.size + 3) (fun b => (S b ∧ b < w.heap.size) ∨ w.heap.size + 3 ≤ b) A' k c' (pushL (l.take k) b) ∧ Hid (Blk wr w.heap.size 24 (qV o n s A l.length c)) ∧ Hid (Blk wr (w.heap.size + 1) 24 #[.int .i64 0, .int .i64 0, .string ⟨#[]⟩, .slice none 0 0]) ∧ Hid (Blk wr (w.heap.size + 2) 24 #[.int .i64 o', .int .i64 n, .string ⟨s.toArray⟩, .slice A' k c']) ∧ Below w.heap.size w wr) (fun i _ => l.length - (intOf i).toNat)
    case atStart => exact ⟨0, none, 0, Nat.zero_le _, rfl, Oq.nil, Lib.hid (HX0.out.alloc _), Lib.hid (HY0.out.alloc _), HO0, bel_alloc B0 _⟩
    case round =>
      obtain ⟨k, A', c', hkn, rfl, hown, hx, hy, hz, hb⟩ := hrel
      have hcap := hown.cap
      have hzl := hz.out.lt
      obtain ⟨p0, p1, p2, p3⟩ := box_facts hx.out
      by_cases hlt : k < l.length
      · have hlt' : decide (k < l.length) = true := by simpa using hlt
        have HOWN := Lib.hid hown
        clear hown
        go_wp2_with fail
        refine wp_region_ord (w.heap.size + 2) (by kernel_rfl) (.take 0 (.take 2 (.take 3 (.take 4 (.take 5 (.take 6 (.take 7 (.two 1 (.exec 8 (.exec 9 (.exec 10 (.take 11 (.exec 12 (.nil)))))) 8 (.two 1 (.exec 9 (.exec 10 (.take 11 (.exec 12 (.nil))))) 9 (.exec 1 (.exec 10 (.take 11 (.exec 12 (.nil)))))))))))))) (by kernel_rfl) (by kernel_rfl) (by kernel_rfl) ?_
        intro w0 hb0 hz0
        have B1 := bel_step hb hb0
        have hsz := B1.size
        obtain ⟨q, B, cq, bb, off, hg, rfl, hSb, hbs, hq', g1, g2, g3, g4, g5, f0, f1, f2, f3⟩ := (HK.out.bel B1).at hlt
        have hbw : bb < w.heap.size := hSb.2
        have F0 := laterB (B := w.heap.size + 2) f0 (by simp; omega)
        have F1 := laterB (B := w.heap.size + 2) f1 (by simp; omega)
        have F2 := laterB (B := w.heap.size + 2) f2 (by simp; omega)
        have F3 := laterB (B := w.heap.size + 2) f3 (by simp; omega)
        have P3 := laterB (B := w.heap.size + 2) (later p3 w0 hb0) (by simp)
        have hmem : q ∈ l := List.mem_of_getElem? hg.out
        have hsn : pushL (l.take (k + 1)) b = pushL (l.take k) b ++ [pushQ q b] := by
          rw [pushL_map, pushL_map, List.take_add_one, hg.out]; simp
        have HS := Lib.hid hsn
        have HC := Lib.hid (HI.out q hmem _ w0 _ (HH.out q hmem) hq'.out)
        have HX1 := Lib.hid (hx.out.below hb0 hx.out.lt)
        have HY1 := Lib.hid (hy.out.below hb0 hy.out.lt)
        have HZ1 := Lib.hid (hz.out.below hb0 hz.out.lt)
        have HOW1 := Lib.hid (HOWN.out.bel hb0)
        have HLT := Lib.hid HOW1.out.lt
        have hzl0 := HZ1.out.lt
        have htr := hSb
        clear f0 f1 f2 f3 p0 p1 p2 p3 hx hy hz HOWN hq' hmem hsn hSb htr
        simp only [qV] at HC
        generalize pushQ q b = nq at *
        iterate 7 (refine wpOrd_take (o := ⟨_, _, _, _, _, _⟩) (v := ?_) rfl rfl ?_ ?_; rotate_left; (focus (intro W hW; go_simp; first | done | with_reducible rfl)); simp only [Act.put, List.setIfInBounds_toArray, List.set_cons_zero, List.set_cons_succ])
        clear F0 F1 F2 F3 P3
        refine wpOrd_two ?_ ?_
        · refine wpOrd_exec (o := ⟨_, _, _, _, _, _⟩) rfl rfl (fun K hK => ?_)
          have x3 := HZ1.out.cell 3
          simp at x3
          go_simp
          refine hK _ _ (Below.refl _ _) ?_
          clear hK K x3
          refine wpOrd_exec (o := ⟨_, _, _, _, _, _⟩) rfl rfl (fun K hK => ?_)
          go_simp
          (with_reducible refine (HC.out).mono ?_)
          rintro e w2 ⟨v2, rfl, hq2, hb2⟩
          have HQ2 := Lib.hid hq2
          obtain ⟨A2, c2, rfl, -, -, -, -, -, -⟩ := hq2.open_
          clear hq2
          simp only [qV]
          go_wp2_with fail
          refine hK _ _ (hb2.mono (by omega)) ?_
          clear hK K
          have B2 := bel_step B1 hb2
          have hs2 := hb2.size
          have HZ2 := Lib.hid (HZ1.out.below hb2 HZ1.out.lt)
          refine wpOrd_exec (o := ⟨_, _, _, _, _, _⟩) rfl rfl (fun K hK => ?_)
          go_simp
          refine hK _ _ ((Below.refl _ _).alloc (by omega) _) ?_
          clear hK K
          have HZ3 := Lib.hid (HZ2.out.alloc (.cells (qV nq.op nq.n nq.s A2 nq.kids.length c2) 24))
          simp only [qV] at HZ3
          have hsrc := (HQ2.out.wide (S' := fun b => ((S b ∧ b < w.heap.size) ∨ w.heap.size + 3 ≤ b) ∧ some b ≠ (Value.slice A' k c').ownBlock) (fun b h _ => h.elim (fun h => ⟨.inl h, fun e => by have := HLT.out b e.symm; omega⟩) (fun h => ⟨.inr (by omega), fun e => by have := HLT.out b e.symm; omega⟩)))
          have hlit := hsrc.lit' (g := w2.heap.size) rfl
          have ho3 := (HOW1.out.bel hb2).bel (bel_alloc (Below.refl _ _) (.cells (qV nq.op nq.n nq.s A2 nq.kids.length c2) 24))
          have hbase : w.heap.size + 3 ≤ (w2.alloc (.cells (qV nq.op nq.n nq.s A2 nq.kids.length c2) 24)).heap.size := by simp; omega
          have E3 := bel_alloc (Below.refl w2.heap.size w2) (.cells (qV nq.op nq.n nq.s A2 nq.kids.length c2) 24)
          have HX3 := Lib.hid ((HX1.out.below hb2 HX1.out.lt).below E3 (by omega))
          have HY3 := Lib.hid ((HY1.out.below hb2 HY1.out.lt).below E3 (by omega))
          simp only [qV] at ho3 hlit hbase E3
          refine wpOrd_exec (o := ⟨_, _, _, _, _, _⟩) rfl rfl (fun K hK => ?_)
          refine wp_appQ rfl rfl ho3 rfl hlit (by omega) hbase ?_
          intro A'' c'' w3 ho4 hb4
          refine hK _ _ (hb4.mono (by omega)) ?_
          clear hK K
          simp only [Act.put, List.setIfInBounds_toArray, List.set_cons_zero, List.set_cons_succ]
          have B4 := (bel_step B2 E3).trans (hb4.mono (by omega))
          have hx4 := Lib.hid (HX3.out.below hb4 (by omega))
          have hy4 := Lib.hid (HY3.out.below hb4 (by omega))
          have hz4 := HZ3.out.below hb4 (by omega)
          iterate 1 (refine wpOrd_take (o := ⟨_, _, _, _, _, _⟩) (v := ?_) rfl rfl ?_ ?_; rotate_left; (focus (intro W hW; go_simp; first | done | with_reducible rfl)); simp only [Act.put, List.setIfInBounds_toArray, List.set_cons_zero, List.set_cons_succ])
          obtain ⟨r0, r1, r2, r3, r4, r5⟩ := res_facts hz4
          have hz5 := Lib.hid (hz4.set_ 3 (.slice A'' (k + 1) c''))
          have hx5 := Lib.hid (hx4.out.far (p := ⟨w.heap.size + 2, 3, none⟩) (by simp) (.slice A'' (k + 1) c''))
          have hy5 := Lib.hid (hy4.out.far (p := ⟨w.heap.size + 2, 3, none⟩) (by simp) (.slice A'' (k + 1) c''))
          have ho5 := ho4.set (g := w.heap.size + 2) (j := 3) (v := .slice A'' (k + 1) c'') (by omega) (by omega)
          have B5 := B4.setCell (p := ⟨w.heap.size + 2, 3, none⟩) (by simp) (.slice A'' (k + 1) c'')
          have HO5 := Lib.hid ho5
          clear hz4 ho4 ho5
          refine wpOrd_exec (o := ⟨_, _, _, _, _, _⟩) rfl rfl (fun K hK => ?_)
          go_simp
          refine hK _ _ ((Below.refl _ _).setCell (by simp) _) ?_
          clear hK K r0 r1 r2 r3 r4 r5
          refine wpOrd_nil ?_
          go_wp2_with fail
          go_roundw
          case rel => exact ⟨k + 1, A'', c'', by omega, by go_num, by rw [HS.out]; exact HO5.out, hx5, hy5, hz5, B5⟩
          case measure => simp [intOf]; omega
        · refine wpOrd_exec (o := ⟨_, _, _, _, _, _⟩) rfl rfl (fun K hK => ?_)
          go_simp
          (with_reducible refine (HC.out).mono ?_)
          rintro e w2 ⟨v2, rfl, hq2, hb2⟩
          have HQ2 := Lib.hid hq2
          obtain ⟨A2, c2, rfl, -, -, -, -, -, -⟩ := hq2.open_
          clear hq2
          simp only [qV]
          go_wp2_with fail
          refine hK _ _ (hb2.mono (by omega)) ?_
          clear hK K
          have B2 := bel_step B1 hb2
          have hs2 := hb2.size
          have HZ2 := Lib.hid (HZ1.out.below hb2 HZ1.out.lt)
          refine wpOrd_two ?_ ?_
          · refine wpOrd_exec (o := ⟨_, _, _, _, _, _⟩) rfl rfl (fun K hK => ?_)
            have x3 := HZ2.out.cell 3
            simp at x3
            go_simp
            refine hK _ _ (Below.refl _ _) ?_
            clear hK K x3
            refine wpOrd_exec (o := ⟨_, _, _, _, _, _⟩) rfl rfl (fun K hK => ?_)
            go_simp
            refine hK _ _ ((Below.refl _ _).alloc (by omega) _) ?_
            clear hK K
            have HZ3 := Lib.hid (HZ2.out.alloc (.cells (qV nq.op nq.n nq.s A2 nq.kids.length c2) 24))
            simp only [qV] at HZ3
            have hsrc := (HQ2.out.wide (S' := fun b => ((S b ∧ b < w.heap.size) ∨ w.heap.size + 3 ≤ b) ∧ some b ≠ (Value.slice A' k c').ownBlock) (fun b h _ => h.elim (fun h => ⟨.inl h, fun e => by have := HLT.out b e.symm; omega⟩) (fun h => ⟨.inr (by omega), fun e => by have := HLT.out b e.symm; omega⟩)))
            have hlit := hsrc.lit' (g := w2.heap.size) rfl
            have ho3 := (HOW1.out.bel hb2).bel (bel_alloc (Below.refl _ _) (.cells (qV nq.op nq.n nq.s A2 nq.kids.length c2) 24))
            have hbase : w.heap.size + 3 ≤ (w2.alloc (.cells (qV nq.op nq.n nq.s A2 nq.kids.length c2) 24)).heap.size := by simp; omega
            have E3 := bel_alloc (Below.refl w2.heap.size w2) (.cells (qV nq.op nq.n nq.s A2 nq.kids.length c2) 24)
            have HX3 := Lib.hid ((HX1.out.below hb2 HX1.out.lt).below E3 (by omega))
            have HY3 := Lib.hid ((HY1.out.below hb2 HY1.out.lt).below E3 (by omega))
            simp only [qV] at ho3 hlit hbase E3
            refine wpOrd_exec (o := ⟨_, _, _, _, _, _⟩) rfl rfl (fun K hK => ?_)
            refine wp_appQ rfl rfl ho3 rfl hlit (by omega) hbase ?_
            intro A'' c'' w3 ho4 hb4
            refine hK _ _ (hb4.mono (by omega)) ?_
            clear hK K
            simp only [Act.put, List.setIfInBounds_toArray, List.set_cons_zero, List.set_cons_succ]
            have B4 := (bel_step B2 E3).trans (hb4.mono (by omega))
            have hx4 := Lib.hid (HX3.out.below hb4 (by omega))
            have hy4 := Lib.hid (HY3.out.below hb4 (by omega))
            have hz4 := HZ3.out.below hb4 (by omega)
            iterate 1 (refine wpOrd_take (o := ⟨_, _, _, _, _, _⟩) (v := ?_) rfl rfl ?_ ?_; rotate_left; (focus (intro W hW; go_simp; first | done | with_reducible rfl)); simp only [Act.put, List.setIfInBounds_toArray, List.set_cons_zero, List.set_cons_succ])
            obtain ⟨r0, r1, r2, r3, r4, r5⟩ := res_facts hz4
            have hz5 := Lib.hid (hz4.set_ 3 (.slice A'' (k + 1) c''))
            have hx5 := Lib.hid (hx4.out.far (p := ⟨w.heap.size + 2, 3, none⟩) (by simp) (.slice A'' (k + 1) c''))
            have hy5 := Lib.hid (hy4.out.far (p := ⟨w.heap.size + 2, 3, none⟩) (by simp) (.slice A'' (k + 1) c''))
            have ho5 := ho4.set (g := w.heap.size + 2) (j := 3) (v := .slice A'' (k + 1) c'') (by omega) (by omega)
            have B5 := B4.setCell (p := ⟨w.heap.size + 2, 3, none⟩) (by simp) (.slice A'' (k + 1) c'')
            have HO5 := Lib.hid ho5
            clear hz4 ho4 ho5
            refine wpOrd_exec (o := ⟨_, _, _, _, _, _⟩) rfl rfl (fun K hK => ?_)
            go_simp
            refine hK _ _ ((Below.refl _ _).setCell (by simp) _) ?_
            clear hK K r0 r1 r2 r3 r4 r5
            refine wpOrd_nil ?_
            go_wp2_with fail
            go_roundw
            case rel => exact ⟨k + 1, A'', c'', by omega, by go_num, by rw [HS.out]; exact HO5.out, hx5, hy5, hz5, B5⟩
            case measure => simp [intOf]; omega
          · refine wpOrd_exec (o := ⟨_, _, _, _, _, _⟩) rfl rfl (fun K hK => ?_)
            go_simp
            refine hK _ _ ((Below.refl _ _).alloc (by omega) _) ?_
            clear hK K
            have HZ3 := Lib.hid (HZ2.out.alloc (.cells (qV nq.op nq.n nq.s A2 nq.kids.length c2) 24))
            simp only [qV] at HZ3
            refine wpOrd_exec (o := ⟨_, _, _, _, _, _⟩) rfl rfl (fun K hK => ?_)
            have x3 := HZ3.out.cell 3
            simp at x3
            go_simp
            refine hK _ _ (Below.refl _ _) ?_
            clear hK K x3
            have hsrc := (HQ2.out.wide (S' := fun b => ((S b ∧ b < w.heap.size) ∨ w.heap.size + 3 ≤ b) ∧ some b ≠ (Value.slice A' k c').ownBlock) (fun b h _ => h.elim (fun h => ⟨.inl h, fun e => by have := HLT.out b e.symm; omega⟩) (fun h => ⟨.inr (by omega), fun e => by have := HLT.out b e.symm; omega⟩)))
            have hlit := hsrc.lit' (g := w2.heap.size) rfl
            have ho3 := (HOW1.out.bel hb2).bel (bel_alloc (Below.refl _ _) (.cells (qV nq.op nq.n nq.s A2 nq.kids.length c2) 24))
            have hbase : w.heap.size + 3 ≤ (w2.alloc (.cells (qV nq.op nq.n nq.s A2 nq.kids.length c2) 24)).heap.size := by simp; omega
            have E3 := bel_alloc (Below.refl w2.heap.size w2) (.cells (qV nq.op nq.n nq.s A2 nq.kids.length c2) 24)
            have HX3 := Lib.hid ((HX1.out.below hb2 HX1.out.lt).below E3 (by omega))
            have HY3 := Lib.hid ((HY1.out.below hb2 HY1.out.lt).below E3 (by omega))
            simp only [qV] at ho3 hlit hbase E3
            refine wpOrd_exec (o := ⟨_, _, _, _, _, _⟩) rfl rfl (fun K hK => ?_)
            refine wp_appQ rfl rfl ho3 rfl hlit (by omega) hbase ?_
            intro A'' c'' w3 ho4 hb4
            refine hK _ _ (hb4.mono (by omega)) ?_
            clear hK K
            simp only [Act.put, List.setIfInBounds_toArray, List.set_cons_zero, List.set_cons_succ]
            have B4 := (bel_step B2 E3).trans (hb4.mono (by omega))
            have hx4 := Lib.hid (HX3.out.below hb4 (by omega))
            have hy4 := Lib.hid (HY3.out.below hb4 (by omega))
            have hz4 := HZ3.out.below hb4 (by omega)
            iterate 1 (refine wpOrd_take (o := ⟨_, _, _, _, _, _⟩) (v := ?_) rfl rfl ?_ ?_; rotate_left; (focus (intro W hW; go_simp; first | done | with_reducible rfl)); simp only [Act.put, List.setIfInBounds_toArray, List.set_cons_zero, List.set_cons_succ])
            obtain ⟨r0, r1, r2, r3, r4, r5⟩ := res_facts hz4
            have hz5 := Lib.hid (hz4.set_ 3 (.slice A'' (k + 1) c''))
            have hx5 := Lib.hid (hx4.out.far (p := ⟨w.heap.size + 2, 3, none⟩) (by simp) (.slice A'' (k + 1) c''))
            have hy5 := Lib.hid (hy4.out.far (p := ⟨w.heap.size + 2, 3, none⟩) (by simp) (.slice A'' (k + 1) c''))
            have ho5 := ho4.set (g := w.heap.size + 2) (j := 3) (v := .slice A'' (k + 1) c'') (by omega) (by omega)
            have B5 := B4.setCell (p := ⟨w.heap.size + 2, 3, none⟩) (by simp) (.slice A'' (k + 1) c'')
            have HO5 := Lib.hid ho5
            clear hz4 ho4 ho5
            refine wpOrd_exec (o := ⟨_, _, _, _, _, _⟩) rfl rfl (fun K hK => ?_)
            go_simp
            refine hK _ _ ((Below.refl _ _).setCell (by simp) _) ?_
            clear hK K r0 r1 r2 r3 r4 r5
            refine wpOrd_nil ?_
            go_wp2_with fail
            go_roundw
            case rel => exact ⟨k + 1, A'', c'', by omega, by go_num, by rw [HS.out]; exact HO5.out, hx5, hy5, hz5, B5⟩
            case measure => simp [intOf]; omega
      · obtain rfl : k = l.length := by omega
        have hlt' : decide (l.length < l.length) = false := by simp
        have hqs := hown.qs (S' := fun b => (S b ∧ b < w.heap.size) ∨ w.heap.size + 3 ≤ b) (fun b h _ => h) (fun b h _ => .inr h)
        rw [List.take_length] at hqs
        have HQS := Lib.hid hqs
        obtain ⟨q0, q1, q2, q3⟩ := box_facts hz.out
        have hy2 := hy.out
        obtain ⟨r0, r1, r2, r3, r4, r5⟩ := res_facts hy2
        have hzz := set4 hy2 (.int .i64 o') (.int .i64 n) (.string ⟨s.toArray⟩) (.slice A' l.length c')
        have HZZ := Lib.hid (res_facts hzz)
        obtain ⟨hcap1, hcap2⟩ := hcap
        clear hown hqs hx hy hz hy2 hzz
        go_wp2_with fail
        obtain ⟨y0, y1, y2, y3, -, -⟩ := HZZ.out
        refine bodyPost_ret (v := .agg #[.int .i64 o', .int .i64 n, .string ⟨s.toArray⟩, .slice A' l.length c']) (by simp [results, Try.results32, go_sem, y0, y1, y2, y3]) rfl ⟨_, rfl, ?_, bel4 hb (by omega) _ _ _ _⟩
        exact QAt.make hio' hin hs ⟨hcap1, hcap2⟩ ((HQS.out.set4 (by omega) _ _ _ _).wide (fun b h _ => h.elim (fun h => .inl h.1) (fun h => .inr (by omega))))
end Go.Proofs.Ytjnhhdkphcbflaa
