/-
  Rows of queries of the call's own; other, opposite, once.
-/
import Derived.Test.YtjnhhdkphcbflaaQtH
namespace Go.Proofs.Ytjnhhdkphcbflaa
open Go.RowKit Go.Nst
set_option maxRecDepth 100000
set_option linter.unusedVariables false
set_option linter.unusedSimpArgs false

theorem QAt.one {w : World} {S : Nat → Prop} {v : Array Value} {q : Qy} (h : QAt w S v q) : ∀ u ∈ v.toList, u.oneCell' = true := by
  cases h with
  | mk V hk ho hn hs hc hA hq =>
    intro u hu
    simp only [qV, List.mem_cons, List.not_mem_nil, or_false] at hu
    rcases hu with rfl | rfl | rfl | rfl <;> rfl
/-- arrays of four cells, one behind the other -/
def rowC (V : Nat → Array Value) (m : Nat) : List Value := (List.range m).flatMap fun i => (V i).toList
theorem rowC_succ (V : Nat → Array Value) (m : Nat) : rowC V (m + 1) = rowC V m ++ (V m).toList := by simp [rowC, List.range_succ]
theorem rowC_len (V : Nat → Array Value) : ∀ m, (∀ i, i < m → (V i).size = 4) → (rowC V m).length = m * 4
  | 0, _ => rfl
  | m + 1, h => by
    rw [rowC_succ, List.length_append, rowC_len V m fun i hi => h i (by omega), Array.length_toList, h m (by omega)]
    omega
theorem rowC_get (V : Nat → Array Value) : ∀ m, (∀ i, i < m → (V i).size = 4) → ∀ i j, i < m → j < 4 → (rowC V m)[i * 4 + j]? = (V i)[j]?
  | 0, _, i, j, hi, _ => absurd hi (by omega)
  | m + 1, h, i, j, hi, hj => by
    have hl := rowC_len V m fun i hi => h i (by omega)
    rw [rowC_succ]
    by_cases he : i = m
    · subst he
      rw [List.getElem?_append_right (by omega), hl]
      simp
    · rw [List.getElem?_append_left (by omega)]
      exact rowC_get V m (fun i hi => h i (by omega)) i j (by omega) hj
/-- a slice reads as a list of queries, wherever the slice itself lies -/
def QsR (w : World) (S : Nat → Prop) (A : Option Addr) (k : Nat) (l : List Qy) : Prop :=
  l.length = k ∧ ∃ V : Nat → Array Value, (0 < k → ∃ b off, A = some ⟨b, off, none⟩ ∧ b < w.heap.size ∧ ∀ (i j : Nat) (u : Value), i < k → (V i)[j]? = some u → w.cell? ⟨b, off + i * 4 + j, none⟩ = some u) ∧ ∀ (i : Nat) (q : Qy), l[i]? = some q → QAt w S (V i) q
theorem QsAt.r {w : World} {S S' : Nat → Prop} {A : Option Addr} {k : Nat} {l : List Qy} (h : QsAt w S A k l) (hS : ∀ b, S b → b < w.heap.size → S' b) : QsR w S' A k l := by
  obtain ⟨hk, V, hA, hq⟩ := h
  exact ⟨hk, V, fun h0 => let ⟨b, off, e, _, hb, hc⟩ := hA h0; ⟨b, off, e, hb, hc⟩, fun i q hi => (hq i q hi).wide hS⟩
theorem QsR.reads {w : World} {S : Nat → Prop} {A : Option Addr} {k : Nat} {l : List Qy} (h : QsR w S A k l) : ∃ V : Nat → Array Value, Reads w w.heap.size 4 A k (rowC V k) ∧ (∀ i, i < k → (V i).size = 4) ∧ (∀ u ∈ rowC V k, u.oneCell' = true) ∧ ∀ (i : Nat) (q : Qy), l[i]? = some q → QAt w S (V i) q := by
  obtain ⟨hk, V, hA, hq⟩ := h
  have hget : ∀ i, i < k → QAt w S (V i) (l[i]?.getD .zero) := fun i hi => by
    have hg : l[i]? = some (l[i]'(by omega)) := List.getElem?_eq_getElem (by omega)
    rw [hg]
    exact hq i _ hg
  have h4 : ∀ i, i < k → (V i).size = 4 := fun i hi => (hget i hi).size4
  refine ⟨V, ⟨rowC_len V k h4, fun h0 => ?_⟩, h4, fun u hu => ?_, hq⟩
  · obtain ⟨b, off, e, hb, hc⟩ := hA h0
    refine ⟨_, e, hb, fun j u hu => ?_⟩
    have hj : j < k * 4 := by
      have := (List.getElem?_eq_some_iff.1 hu).1
      rwa [rowC_len V k h4] at this
    rw [show j = j / 4 * 4 + j % 4 by omega] at hu ⊢
    rw [rowC_get V k h4 _ _ (by omega) (by omega)] at hu
    rw [add_lit, ← Nat.add_assoc]
    exact hc _ _ u (by omega) hu
  · obtain ⟨i, hi, hui⟩ := List.mem_flatMap.1 hu
    exact (hget i (by simpa using hi)).one u hui

theorem iQs : Info Try.prog 22 24 (.agg #[.int .i64 0, .int .i64 0, .string ⟨#[]⟩, .slice none 0 0]) 4 56 := Info.mk_ Try.underlying22 (by kernel_rfl) rfl (by omega)
/-- a row of queries of the call's own; what stands within them lies in blocks of S, not in the row's -/
def Oq (w : World) (base : Nat) (S : Nat → Prop) (A : Option Addr) (n c : Nat) (l : List Qy) : Prop :=
  ∃ xs : List Value, w.ownsRow base 24 4 (.slice A n c) n xs ∧ l.length = n ∧ ∃ V : Nat → Array Value, (∀ (i j : Nat) (u : Value), i < n → (V i)[j]? = some u → xs[i * 4 + j]? = some u) ∧ ∀ (i : Nat) (q : Qy), l[i]? = some q → QAt w (fun b => S b ∧ some b ≠ (Value.slice A n c).ownBlock) (V i) q
section
variable {w w' : World} {base : Nat} {S S' : Nat → Prop} {A : Option Addr} {n c : Nat} {l : List Qy}
theorem Oq.nil : Oq w base S none 0 0 [] := ⟨[], World.ownsRow_nil _ _ _ _, rfl, fun _ => #[], by intro i j u h; omega, by simp⟩
theorem Oq.len (h : Oq w base S A n c l) : l.length = n := by obtain ⟨_, _, h, _⟩ := h; exact h
theorem Oq.cap (h : Oq w base S A n c l) : n ≤ c ∧ c ≤ 9223372036854775807 := by obtain ⟨_, h, _⟩ := h; exact own_cap h
theorem Oq.lt (h : Oq w base S A n c l) : ∀ g, (Value.slice A n c).ownBlock = some g → base ≤ g ∧ g < w.heap.size := by obtain ⟨_, h, _⟩ := h; exact World.ownsRow.lt h
theorem Oq.bel (h : Oq w base S A n c l) (hb : Below w.heap.size w w') : Oq w' base S A n c l := by
  obtain ⟨xs, h1, h2, V, h3, h4⟩ := h
  exact ⟨xs, own_below h1 hb, h2, V, h3, fun i q hi => (h4 i q hi).bel hb⟩
theorem Oq.mono {base' : Nat} (h : Oq w base S A n c l) (hb : base' ≤ base) : Oq w base' S A n c l := by
  obtain ⟨xs, h1, h2, V, h3, h4⟩ := h
  exact ⟨xs, own_mono h1 hb, h2, V, h3, h4⟩
theorem Oq.wide (h : Oq w base S A n c l) (hS : ∀ b, S b → b < w.heap.size → S' b) : Oq w base S' A n c l := by
  obtain ⟨xs, h1, h2, V, h3, h4⟩ := h
  exact ⟨xs, h1, h2, V, h3, fun i q hi => (h4 i q hi).wide fun b hb hlt => ⟨hS b hb.1 hlt, hb.2⟩⟩
/-- it reads as a list -/
theorem Oq.qs (h : Oq w base S A n c l) (hS : ∀ b, S b → b < w.heap.size → S' b) (hB : ∀ b, base ≤ b → b < w.heap.size → S' b) : QsAt w S' A n l := by
  obtain ⟨xs, h1, h2, V, h3, h4⟩ := h
  refine ⟨h2, V, fun h0 => ?_, fun i q hi => (h4 i q hi).wide fun b hb hlt => hS b hb.1 hlt⟩
  obtain ⟨g, rfl, hg1, hg2, _⟩ := own_where h1 h0
  refine ⟨g, 0, rfl, hB g hg1 hg2, hg2, fun i j u hi hu => ?_⟩
  have := World.ownsRow.cells (g := g) h1 rfl _ u (h3 i j u hi hu)
  rw [add_lit] at this
  rwa [Nat.zero_add] at this ⊢
/-- append of what a slice reads as -/
theorem wp_appQ {o : Oper} {a : Act} {K : Act → World → Prop} {Q : Exit → Act → World → Prop} {s x : Operand}
    (ho : o.op = .call { callee := .builtin .append, args := #[s, x], argTypes := #[22, 22] })
    {A0 : Option Addr} {c0 : Nat} {L : List Qy} (hs : a.eval s = .slice A0 n c0) (hown : Oq w base S A0 n c0 L)
    {m c : Nat} {l2 : List Qy} (hx : a.eval x = .slice A m c) (hr : QsR w (fun b => S b ∧ some b ≠ (Value.slice A0 n c0).ownBlock) A m l2)
    (hn : n + m ≤ 1000000) (hbase : base ≤ w.heap.size)
    (h : ∀ A' c' w', Oq w' base S A' (n + m) c' (L ++ l2) → Below base w w' → K (a.put o.dst (.slice A' (n + m) c')) w') : o.wp Try.prog a w K Q := by
  obtain ⟨xs, h1, h2, V, h3, h4⟩ := hown
  obtain ⟨V2, hR, hV4, hone, hq2⟩ := hr.reads
  have hl2 := hr.1
  refine wp_app w iQs ho hs h1 hx hR hone (by unfold maxLen; omega) (by omega) hbase fun A' c' w' k1 k2 k3 => h A' c' w' ?_ ((Below.refl _ _).grown k2 hbase (fun k hk => (World.ownsRow.lt h1 k hk).1))
  have hkeep : ∀ b, (S b ∧ some b ≠ (Value.slice A0 n c0).ownBlock) → b < w.heap.size → w'.heap[b]? = w.heap[b]? := fun b hb hlt => k2.block b hlt hb.2
  have hkeep2 : ∀ b, (S b ∧ some b ≠ (Value.slice A0 n c0).ownBlock) → b < w.heap.size → (S b ∧ some b ≠ (Value.slice A' (n + m) c').ownBlock) := fun b hb hlt => by
    refine ⟨hb.1, ?_⟩
    rcases k3 with e | e
    · rw [e]; exact hb.2
    · rw [e]; intro he; injection he with he; omega
  have hlen := h1.1
  refine ⟨_, k1, by rw [List.length_append]; omega, fun i => if i < n then V i else V2 (i - n), fun i j u hi hu => ?_, fun i q hi => ?_⟩
  · by_cases hin : i < n
    · simp only [if_pos hin] at hu
      have := h3 i j u hin hu
      rw [List.getElem?_append_left (List.getElem?_eq_some_iff.1 this).1]
      exact this
    · simp only [if_neg hin] at hu
      have hj : j < 4 := by
        rcases Nat.lt_or_ge j 4 with h | h
        · exact h
        · rw [Array.getElem?_eq_none (by rw [hV4 _ (by omega)]; exact h)] at hu; cases hu
      rw [List.getElem?_append_right (by omega), hlen, show i * 4 + j - n * 4 = (i - n) * 4 + j by omega, rowC_get V2 m hV4 _ _ (by omega) hj]
      exact hu
  · by_cases hin : i < n
    · rw [List.getElem?_append_left (by omega)] at hi
      simp only [if_pos hin]
      exact (h4 i q hi).keep hkeep k2.size hkeep2
    · rw [List.getElem?_append_right (by omega), h2] at hi
      simp only [if_neg hin]
      exact (hq2 _ q hi).keep hkeep k2.size hkeep2
theorem wpList_appQ {ops : Array Oper} {rest : List Oper} {o : Oper} {a : Act} {Q : Exit → Act → World → Prop} {s x : Operand} (hgd : o.guard = none)
    (ho : o.op = .call { callee := .builtin .append, args := #[s, x], argTypes := #[22, 22] })
    {A0 : Option Addr} {c0 : Nat} {L : List Qy} (hs : a.eval s = .slice A0 n c0) (hown : Oq w base S A0 n c0 L)
    {m c : Nat} {l2 : List Qy} (hx : a.eval x = .slice A m c) (hr : QsR w (fun b => S b ∧ some b ≠ (Value.slice A0 n c0).ownBlock) A m l2)
    (hn : n + m ≤ 1000000) (hbase : base ≤ w.heap.size)
    (h : ∀ A' c' w', Oq w' base S A' (n + m) c' (L ++ l2) → Below base w w' → wpList Try.prog ops Q rest (a.put o.dst (.slice A' (n + m) c')) w') : wpList Try.prog ops Q (o :: rest) a w :=
  wpList_plain hgd fun _ hK => wp_appQ ho hs hown hx hr hn hbase fun A' c' w' h1 h2 => hK _ _ (h A' c' w' h1 h2)
/-- a cell of another block is written -/
theorem Oq.set {g j : Nat} {v : Value} (h : Oq w base S A n c l) (hg : g < base) (hS : ¬ S g) : Oq (w.setCell ⟨g, j, none⟩ v) base S A n c l := by
  obtain ⟨xs, h1, h2, V, h3, h4⟩ := h
  have hgr : w.grownBy (w.setCell ⟨g, j, none⟩ v) (some g) := only_setCell (World.grownBy.refl w _) (.inl rfl) v
  refine ⟨xs, own_only h1 hgr (fun g' hg' e => ?_), h2, V, h3, fun i q hi => (h4 i q hi).grown hgr (fun g' hg' hs => ?_)⟩
  · have := (World.ownsRow.lt h1 g' hg').1
    injection e with e
    omega
  · injection hg' with hg'
    subst hg'
    exact hS hs.1
/-- a literal of one query -/
theorem QAt.lit {vs : Array Value} {q : Qy} (h : QAt w S vs q) : QsR (w.alloc (.cells vs 24)) S (some ⟨w.heap.size, 0, none⟩) 1 [q] := by
  refine ⟨rfl, fun _ => vs, fun _ => ⟨_, _, rfl, by simp, fun i j u hi hu => ?_⟩, fun i x hi => ?_⟩
  · rw [show 0 + i * 4 + j = j by omega, (Blk.new w 24 vs).cell]
    exact hu
  · have : i = 0 := by
      rcases Nat.lt_or_ge i 1 with h | h
      · omega
      · rw [List.getElem?_eq_none (by simpa using h)] at hi; cases hi
    subst this
    simp only [List.getElem?_cons_zero, Option.some.injEq] at hi
    subst hi
    exact h.bel (bel_alloc (Below.refl _ _) _)
theorem QAt.lit' {vs : Array Value} {q : Qy} {g : Nat} (h : QAt w S vs q) (hg : w.heap.size = g) : QsR (w.alloc (.cells vs 24)) S (some ⟨g, 0, none⟩) 1 [q] := hg ▸ h.lit
theorem QsR.at_ (h : QsR w S A n l) (hS : ∀ b off, A = some ⟨b, off, none⟩ → S b) : QsAt w S A n l := by
  obtain ⟨hk, V, hA, hq⟩ := h
  exact ⟨hk, V, fun h0 => let ⟨b, off, e, hb, hc⟩ := hA h0; ⟨b, off, e, hS b off e, hb, hc⟩, hq⟩
end
/-- a query handed back -/
def RetQ (w : World) (S : Nat → Prop) (q : Qy) (e : Ending) (w' : World) : Prop := ∃ vs, e = .returned (.agg vs) ∧ QAt w' (fun b => S b ∨ w.heap.size ≤ b) vs q ∧ Below w.heap.size w w'
theorem i64P_lit {z : Int} (h : -9223372036854775808 ≤ z ∧ z ≤ 9223372036854775807) : i64P z := h
theorem QAt.leaf {w : World} {S : Nat → Prop} {o n : Int} {s : List UInt8} (ho : i64P o) (hn : i64P n) (hs : s.length ≤ 9223372036854775807) : QAt w S #[.int .i64 o, .int .i64 n, .string ⟨s.toArray⟩, .slice none 0 0] ⟨o, n, s, []⟩ :=
  QAt.make ho hn hs ⟨Nat.le_refl _, by omega⟩ QsAt.nil
theorem other25_any (o : Int) (w : World) : Calls Try.prog 42 #[.int .i64 o] w fun e w' => e = .returned (.int .i64 (otherO o)) ∧ w = w' := by
  have hq : otherO o = if o = 1 then 2 else if o = 2 then 1 else if o = 3 then 4 else 3 := rfl
  have HQ := Lib.hid hq
  clear hq
  by_cases h1 : o = 1
  · subst h1
    go_enter Try.func42, Try.ntmps42
    go_wp2_with fail
    go_ret
    exact ⟨rfl, rfl⟩
  have b1 : (o == 1) = false := by simpa using h1
  by_cases h2 : o = 2
  · subst h2
    go_enter Try.func42, Try.ntmps42
    go_wp2_with fail
    go_ret
    exact ⟨rfl, rfl⟩
  have b2 : (o == 2) = false := by simpa using h2
  by_cases h3 : o = 3
  · subst h3
    go_enter Try.func42, Try.ntmps42
    go_wp2_with fail
    go_ret
    exact ⟨rfl, rfl⟩
  have b3 : (o == 3) = false := by simpa using h3
  go_enter Try.func42, Try.ntmps42
  go_wp2_with fail
  go_ret
  exact ⟨by rw [HQ.out, if_neg h1, if_neg h2, if_neg h3]; rfl, rfl⟩
/-- what is not a query, made of it -/
theorem not_made {w : World} {S : Nat → Prop} {vs : Array Value} {q : Qy} (h : QAt w S vs q) (hS : S w.heap.size) {g : Nat} (hg : w.heap.size = g) : QAt (w.alloc (.cells vs 24)) S #[.int .i64 5, .int .i64 0, .string ⟨#[]⟩, .slice (some ⟨g, 0, none⟩) 1 1] (notQ q) := by
  subst hg
  exact QAt.make (s := []) (i64P_lit (by omega)) (i64P_lit (by omega)) (by simp) ⟨Nat.le_refl _, by omega⟩ (h.lit.at_ (fun b off e => by injection e with e; injection e with e; exact e ▸ hS))
set_option maxHeartbeats 1000000 in
theorem opposite25_any (q : Qy) (vs : Array Value) (w : World) (S : Nat → Prop) (hq : QAt w S vs q) (h5 : q.op = 5 → q.kids ≠ []) : Calls Try.prog 43 #[.agg vs] w (RetQ w S (oppQ q)) := by
  have HQ := Lib.hid hq
  obtain ⟨A, c, rfl, ho, hn, hs, hc1, hc2, hk⟩ := hq.open_
  obtain ⟨o, n, s, l⟩ := q
  simp only [Qy.op, Qy.n, Qy.s, Qy.kids, qV] at *
  clear hq
  by_cases he : o = 5
  · subst he
    have hl : 0 < l.length := List.length_pos_iff.2 (h5 rfl)
    have hop : oppQ ⟨5, n, s, l⟩ = l.headD .zero := rfl
    rw [hop]
    obtain ⟨q, B, c', b, off, hg, rfl, -, hbs, hq', g1, g2, g3, g4, g5, f0, f1, f2, f3⟩ := hk.at hl
    have hh : l.headD .zero = q := by rw [List.headD_eq_head?_getD, List.head?_eq_getElem?, hg.out]; rfl
    rw [hh]
    rw [Nat.zero_mul, Nat.add_zero] at f0 f1 f2 f3
    clear hop h5 hk hh
    go_enter Try.func43, Try.ntmps43
    go_wp2_with fail
    exact bodyPost_ret (v := .agg #[.int .i64 q.op, .int .i64 q.n, .string ⟨q.s.toArray⟩, .slice B q.kids.length c']) (by simp [results, Try.results43, go_sem]) rfl ⟨_, rfl, (hq'.out.bel (bel_alloc (bel_alloc (Below.refl _ _) _) _)).wide (fun b h _ => .inl h), bel_alloc (bel_alloc (Below.refl _ _) _) _⟩
  · have b5 : (o == 5) = false := by simpa using he
    have hop : oppQ ⟨o, n, s, l⟩ = notQ ⟨o, n, s, l⟩ := by unfold oppQ; rw [if_neg (show ¬ (Qy.mk o n s l).op = 5 from he)]
    rw [hop]
    clear hop h5 hk
    go_enter Try.func43, Try.ntmps43
    go_wp2_with fail
    refine bodyPost_ret (v := .agg #[.int .i64 5, .int .i64 0, .string ⟨#[]⟩, .slice (some ⟨w.heap.size + 1 + 1, 0, none⟩) 1 1]) (by simp [results, Try.results43, go_sem]) rfl ⟨_, rfl, ?_, ?_⟩
    · exact not_made ((HQ.out.bel (bel_alloc (bel_alloc (Below.refl _ _) _) _)).wide (fun b h _ => .inl h)) (by simp; right; omega) (by simp)
    · exact bel_alloc (bel_alloc (bel_alloc (Below.refl _ _) _) _) _
theorem Not25_any (q : Qy) (vs : Array Value) (w : World) (S : Nat → Prop) (hq : QAt w S vs q) : Calls Try.prog 20 #[.agg vs] w (RetQ w S (notQ q)) := by
  have HQ := Lib.hid hq
  obtain ⟨A, c, rfl, ho, hn, hs, hc1, hc2, hk⟩ := hq.open_
  obtain ⟨o, n, s, l⟩ := q
  simp only [Qy.op, Qy.n, Qy.s, Qy.kids, qV] at *
  clear hq hk
  go_enter Try.func20, Try.ntmps20
  go_wp2_with fail
  refine bodyPost_ret (v := .agg #[.int .i64 5, .int .i64 0, .string ⟨#[]⟩, .slice (some ⟨w.heap.size + 1 + 1, 0, none⟩) 1 1]) (by simp [results, Try.results20, go_sem]) rfl ⟨_, rfl, ?_, ?_⟩
  · exact not_made ((HQ.out.bel (bel_alloc (bel_alloc (Below.refl _ _) _) _)).wide (fun b h _ => .inl h)) (by simp; right; omega) (by simp)
  · exact bel_alloc (bel_alloc (bel_alloc (Below.refl _ _) _) _) _
/-- the test of once: is it one of those? -/
theorem once1_any (x y : Qy) (g0 g1 : Nat) (vx vs : Array Value) (W : World) (S S2 : Nat → Prop) (h0 : Blk W g0 30 #[.func (.func 15) #[] #[]]) (h1 : Blk W g1 24 vx) (hx : QAt W S vx x) (hy : QAt W S2 vs y) :
    Calls Try.prog 62 #[.agg vs, .pointer (some ⟨g0, 0, none⟩), .pointer (some ⟨g1, 0, none⟩)] W fun e w' => e = .returned (.bool (samQ x y 1)) ∧ Below W.heap.size W w' := by
  have B0 := bel_alloc (Below.refl W.heap.size W) (.cells vs 24)
  have HC := Lib.hid (Same25_any x y vx vs _ S S2 (hx.bel B0) (hy.bel B0))
  obtain ⟨A, c, rfl, -, -, -, -, -, -⟩ := hx.open_
  obtain ⟨A2, c2, rfl, -, -, -, -, -, -⟩ := hy.open_
  have z0 := h0.cell 0
  have l0 := h0.lt
  have l1 := h1.lt
  obtain ⟨x0, x1, x2, x3⟩ := box_facts h1
  simp at z0
  simp only [qV] at *
  clear h0 h1 hx hy
  generalize samQ x y 1 = b at *
  go_enter Try.func62, Try.ntmps62
  go_wp2_with fail
  (with_reducible refine (HC.out).mono ?_)
  rintro e w2 ⟨rfl, hb2⟩
  go_wp2_with fail
  go_ret
  exact ⟨rfl, bel_step B0 hb2⟩
theorem once_snoc : ∀ (l acc : List Qy) (x : Qy), onceL (l ++ [x]) acc = if (onceL l acc).any (fun y => samQ x y 1) then onceL l acc else onceL l acc ++ [x]
  | [], acc, x => by simp [onceL]
  | z :: zs, acc, x => by simp only [List.cons_append, onceL]; exact once_snoc zs _ x
theorem once_len : ∀ (l acc : List Qy), (onceL l acc).length ≤ acc.length + l.length
  | [], acc => by simp [onceL]
  | z :: zs, acc => by
    simp only [onceL]
    by_cases h : (acc.any fun y => samQ z y 1) = true
    · rw [if_pos h]
      have := once_len zs acc
      simp only [List.length_cons]; omega
    · rw [if_neg h]
      have := once_len zs (acc ++ [z])
      simp only [List.length_append, List.length_cons, List.length_nil] at this ⊢; omega
def RetQs (w : World) (S : Nat → Prop) (l : List Qy) (e : Ending) (w' : World) : Prop := ∃ A n c, e = .returned (.slice A n c) ∧ Oq w' w.heap.size S A n c l ∧ Below w.heap.size w w'
set_option maxHeartbeats 4000000 in
theorem once25_any (l : List Qy) (A : Option Addr) (n c : Nat) (w : World) (S : Nat → Prop) (hn : n ≤ 900000) (hc : n ≤ c ∧ c ≤ 9223372036854775807) (hk : QsAt w S A n l) :
    Calls Try.prog 52 #[.slice A n c, .func (.func 15) #[] #[]] w (RetQs w (fun b => S b ∧ b < w.heap.size) (onceL l [])) := by
  have B0 := bel_alloc (Below.refl w.heap.size w) (.cells #[.func (.func 15) #[] #[]] 30)
  have X0 := Blk.new w 30 #[.func (.func 15) #[] #[]]
  have HLN := Lib.hid hk.1
  have HK := Lib.hid (show QsAt w (fun b => S b ∧ b < w.heap.size) A n l from hk.wide fun b h hlt => ⟨h, hlt⟩)
  obtain ⟨hc1, hc2⟩ := hc
  clear hk
  go_enter Try.func52, Try.ntmps52
  go_wp2_with fail
  go_loopw [5, 10] (fun v i wr => ∃ (k : Nat) (A' : Option Addr) (m c' : Nat), k ≤ n ∧ m ≤ k ∧ i = .int .i64 k ∧ v = .slice A' m c' ∧ Oq wr (w.heap.size + 1) (fun b => S b ∧ b < w.heap.size) A' m c' (onceL (l.take k) []) ∧ Hid (Blk wr w.heap.size 30 #[.func (.func 15) #[] #[]]) ∧ Below w.heap.size w wr) (fun _ i _ => n - (intOf i).toNat)
  case atStart => exact ⟨0, none, 0, 0, Nat.zero_le _, Nat.le_refl _, rfl, rfl, Oq.nil, Lib.hid X0, B0⟩
  case round =>
    obtain ⟨k, A', m, c', hkn, hmk, rfl, rfl, ho, hx, hb⟩ := hrel
    have hcap := ho.cap
    by_cases hlt : k < n
    · have hlt' : decide (k < n) = true := by simpa using hlt
      obtain ⟨q, B, cq, b, off, hg, rfl, -, hbs, hq', g1, g2, g3, g4, g5, f0, f1, f2, f3⟩ := (HK.out.bel hb).at hlt
      have hsn : onceL (l.take (k + 1)) [] = if (onceL (l.take k) []).any (fun y => samQ q y 1) then onceL (l.take k) [] else onceL (l.take k) [] ++ [q] := by
        rw [List.take_add_one, hg.out]; exact once_snoc _ _ _
      have HS := Lib.hid hsn
      have E0 := bel_alloc (Below.refl wr.heap.size wr) (.cells (qV q.op q.n q.s B q.kids.length cq) 24)
      have ho1 := ho.bel E0
      have hx1 := hx.out.below E0 hx.out.lt
      have hxq := Blk.new wr 24 (qV q.op q.n q.s B q.kids.length cq)
      have hq1 := hq'.out.bel E0
      generalize onceL (l.take k) [] = acc at *
      have HC := Lib.hid (contains_once (fun y => samQ q y 1) (fun W => Blk W w.heap.size 30 #[.func (.func 15) #[] #[]] ∧ Blk W wr.heap.size 24 (qV q.op q.n q.s B q.kids.length cq) ∧ QAt W (fun b => S b ∧ b < w.heap.size) (qV q.op q.n q.s B q.kids.length cq) q) w.heap.size wr.heap.size
        (fun W W' ⟨i1, i2, i3⟩ hb => ⟨i1.below hb i1.lt, i2.below hb i2.lt, i3.bel hb⟩) acc (fun y _ vs W S2 ⟨i1, i2, i3⟩ hy => once1_any q y _ _ _ vs W _ S2 i1 i2 i3 hy) A' m c' _ (fun _ => True) hcap (ho1.qs (fun _ _ _ => trivial) (fun _ _ _ => trivial)) ⟨hx1, hxq, hq1⟩)
      have HO1 := Lib.hid ho1
      have HX1 := Lib.hid hx1
      have HXQ := Lib.hid hxq
      have HQ1 := Lib.hid hq1
      have hbs2 := hb.size
      obtain ⟨hcap1, hcap2⟩ := hcap
      clear hsn ho ho1 hx hx1 hxq hq1 hq'
      simp only [qV] at HC E0
      generalize (acc.any fun y => samQ q y 1) = bb at *
      go_wp2_with fail
      (with_reducible refine (HC.out).mono ?_)
      rintro e w2 ⟨rfl, hb2⟩
      have B3 := bel_step (bel_step hb E0) hb2
      have ho2 := HO1.out.bel hb2
      have hx2 := Lib.hid (HX1.out.below hb2 HX1.out.lt)
      obtain ⟨x0, x1, x2, x3⟩ := box_facts (HXQ.out.below hb2 HXQ.out.lt)
      have hq2 := HQ1.out.bel hb2
      cases bb with
      | true =>
        have HO2 := Lib.hid ho2
        clear ho2 hq2
        go_wp2_with fail
        go_roundw
        case rel => exact ⟨k + 1, A', m, c', by omega, by omega, by go_num, rfl, by rw [HS.out]; simpa using HO2.out, hx2, B3⟩
        case measure => simp [intOf]; omega
      | false =>
        have hs3 := B3.size
        have ho3 := ho2.bel (bel_alloc (Below.refl w2.heap.size w2) (.cells (qV q.op q.n q.s B q.kids.length cq) 24))
        have hsrc := (hq2.wide (S' := fun b => (S b ∧ b < w.heap.size) ∧ some b ≠ (Value.slice A' m c').ownBlock) (fun b hb _ => ⟨hb, fun e => by have := (ho2.lt b e.symm).1; omega⟩))
        have hlit := hsrc.lit
        have hbase := B3.size
        have HO2 := Lib.hid ho2
        have HSN : Hid (onceL (l.take (k + 1)) [] = acc ++ [q]) := Lib.hid (by rw [HS.out]; simp)
        have E3 := bel_alloc (Below.refl w2.heap.size w2) (.cells (qV q.op q.n q.s B q.kids.length cq) 24)
        have hsz3 : w.heap.size + 1 ≤ (w2.alloc (.cells (qV q.op q.n q.s B q.kids.length cq) 24)).heap.size := by simp; omega
        clear ho2 hq2 hsrc HS
        simp only [qV] at ho3 hlit E3 hsz3
        go_wp2_with (at_builtin; refine wpList_appQ rfl rfl rfl ho3 rfl hlit (by omega) (by omega) ?_; intro A'' c'' w3 ho4 hb4)
        have B4 := (B3.trans (E3.mono hs3)).trans (hb4.mono (by omega))
        have hx3 := Lib.hid ((hx2.out.below E3 hx2.out.lt).below hb4 (by omega))
        go_roundw
        case rel => exact ⟨k + 1, A'', m + 1, c'', by omega, by omega, by go_num, rfl, by rw [HSN.out]; exact ho4, hx3, B4⟩
        case measure => simp [intOf]; omega
    · obtain rfl : k = n := by omega
      have hlt' : decide (k < k) = false := by simp
      have HO := Lib.hid ho
      have hln : l.take k = l := List.take_of_length_le (by have := HLN.out; omega)
      have HL := Lib.hid hln
      clear hln ho hcap
      go_wp2_with fail
      go_ret
      exact ⟨A', m, c', rfl, by have := HO.out; rw [HL.out] at this; exact this.mono (by omega), hb⟩
end Go.Proofs.Ytjnhhdkphcbflaa
