/-
  Queries in memory: a value that reads as a query, a slice that reads as a list of them; opened, kept, made.
-/
import Derived.Test.YtjnhhdkphcbflaaQtP
import Derived.Test.YtjnhhdkphcbflaaBas
import Derived.Test.YtjnhhdkphcbflaaProg
import Derived.Lib.SmallJoins
import Derived.Deep.Slices
namespace Go.Proofs.Ytjnhhdkphcbflaa
open Go.ChangeShapes Go.WideShapes Go.ChangeAt Go.Deep
open Go.RowKit Go.Nst
set_option maxRecDepth 100000
set_option linter.unusedVariables false
set_option linter.unusedSimpArgs false

def i64P (n : Int) : Prop := -9223372036854775808 ≤ n ∧ n ≤ 9223372036854775807
/-- the four cells of a query -/
def qV (o n : Int) (s : List UInt8) (A : Option Addr) (k c : Nat) : Array Value := #[.int .i64 o, .int .i64 n, .string ⟨s.toArray⟩, .slice A k c]
/-- a value reads as a query, all of it in blocks of which S holds -/
inductive QAt (w : World) (S : Nat → Prop) : Array Value → Qy → Prop
  | mk {o n : Int} {s : List UInt8} {A : Option Addr} {k c : Nat} {l : List Qy} (V : Nat → Array Value) (hk : l.length = k) (ho : i64P o) (hn : i64P n) (hs : s.length ≤ 9223372036854775807) (hc : k ≤ c ∧ c ≤ 9223372036854775807)
      (hA : 0 < k → ∃ b off, A = some ⟨b, off, none⟩ ∧ S b ∧ b < w.heap.size ∧ ∀ (i j : Nat) (u : Value), i < k → (V i)[j]? = some u → w.cell? ⟨b, off + i * 4 + j, none⟩ = some u)
      (hq : ∀ (i : Nat) (q : Qy), l[i]? = some q → QAt w S (V i) q) : QAt w S (qV o n s A k c) ⟨o, n, s, l⟩
/-- a slice reads as a list of queries -/
def QsAt (w : World) (S : Nat → Prop) (A : Option Addr) (k : Nat) (l : List Qy) : Prop :=
  l.length = k ∧ ∃ V : Nat → Array Value, (0 < k → ∃ b off, A = some ⟨b, off, none⟩ ∧ S b ∧ b < w.heap.size ∧ ∀ (i j : Nat) (u : Value), i < k → (V i)[j]? = some u → w.cell? ⟨b, off + i * 4 + j, none⟩ = some u) ∧ ∀ (i : Nat) (q : Qy), l[i]? = some q → QAt w S (V i) q

section
variable {w w' : World} {S S' : Nat → Prop} {v : Array Value} {q : Qy} {A : Option Addr} {k : Nat} {l : List Qy}
theorem QAt.open_ (h : QAt w S v q) : ∃ A c, v = qV q.op q.n q.s A q.kids.length c ∧ i64P q.op ∧ i64P q.n ∧ q.s.length ≤ 9223372036854775807 ∧ q.kids.length ≤ c ∧ c ≤ 9223372036854775807 ∧ QsAt w S A q.kids.length q.kids := by
  cases h with
  | mk V hk ho hn hs hc hA hq => subst hk; exact ⟨_, _, rfl, ho, hn, hs, hc.1, hc.2, rfl, V, hA, hq⟩
theorem QAt.make {o n : Int} {s : List UInt8} {c : Nat} (ho : i64P o) (hn : i64P n) (hs : s.length ≤ 9223372036854775807) (hc : k ≤ c ∧ c ≤ 9223372036854775807) (h : QsAt w S A k l) : QAt w S (qV o n s A k c) ⟨o, n, s, l⟩ := by
  obtain ⟨hk, V, hA, hq⟩ := h
  exact .mk V hk ho hn hs hc hA hq
theorem QsAt.nil : QsAt w S none 0 [] := ⟨rfl, fun _ => #[], fun h => absurd h (by omega), by simp⟩
theorem QsAt.nil' (A : Option Addr) : QsAt w S A 0 [] := ⟨rfl, fun _ => #[], fun h => absurd h (by omega), by simp⟩
theorem QAt.size4 (h : QAt w S v q) : v.size = 4 := by cases h; rfl
theorem QAt.keep (hS : ∀ b, S b → b < w.heap.size → w'.heap[b]? = w.heap[b]?) (hz : w.heap.size ≤ w'.heap.size) (hSS : ∀ b, S b → b < w.heap.size → S' b) (h : QAt w S v q) : QAt w' S' v q := by
  induction h with
  | mk V hk ho hn hs hc hA hq ih =>
    refine .mk V hk ho hn hs hc (fun h0 => ?_) ih
    obtain ⟨b, off, e, hb, hlt, hcell⟩ := hA h0
    refine ⟨b, off, e, hSS b hb hlt, by omega, fun i j u hi hu => ?_⟩
    rw [World.cell?_of_block (hS b hb hlt)]
    exact hcell i j u hi hu
theorem QsAt.keep (hS : ∀ b, S b → b < w.heap.size → w'.heap[b]? = w.heap[b]?) (hz : w.heap.size ≤ w'.heap.size) (hSS : ∀ b, S b → b < w.heap.size → S' b) (h : QsAt w S A k l) : QsAt w' S' A k l := by
  obtain ⟨hk, V, hA, hq⟩ := h
  refine ⟨hk, V, fun h0 => ?_, fun i q hi => (hq i q hi).keep hS hz hSS⟩
  obtain ⟨b, off, e, hb, hlt, hcell⟩ := hA h0
  refine ⟨b, off, e, hSS b hb hlt, by omega, fun i j u hi hu => ?_⟩
  rw [World.cell?_of_block (hS b hb hlt)]
  exact hcell i j u hi hu
theorem QAt.bel (h : QAt w S v q) (hb : Below w.heap.size w w') : QAt w' S v q := h.keep (fun b _ hlt => hb.block b hlt) hb.size (fun _ h _ => h)
theorem QsAt.bel (h : QsAt w S A k l) (hb : Below w.heap.size w w') : QsAt w' S A k l := h.keep (fun b _ hlt => hb.block b hlt) hb.size (fun _ h _ => h)
theorem QAt.wide (h : QAt w S v q) (hSS : ∀ b, S b → b < w.heap.size → S' b) : QAt w S' v q := h.keep (fun _ _ _ => rfl) (Nat.le_refl _) hSS
theorem QsAt.wide (h : QsAt w S A k l) (hSS : ∀ b, S b → b < w.heap.size → S' b) : QsAt w S' A k l := h.keep (fun _ _ _ => rfl) (Nat.le_refl _) hSS
/-- where something was written into block g alone, of which S does not hold -/
theorem QAt.grown (h : QAt w S v q) {row : Option Nat} (hg : w.grownBy w' row) (hS : ∀ g, row = some g → ¬ S g) : QAt w' S v q :=
  h.keep (fun b hb hlt => hg.block b hlt (fun e => hS b e.symm hb)) hg.size (fun _ h _ => h)
theorem QsAt.grown (h : QsAt w S A k l) {row : Option Nat} (hg : w.grownBy w' row) (hS : ∀ g, row = some g → ¬ S g) : QsAt w' S A k l :=
  h.keep (fun b hb hlt => hg.block b hlt (fun e => hS b e.symm hb)) hg.size (fun _ h _ => h)
/-- the i-th one: its cells -/
theorem QsAt.at (h : QsAt w S A k l) {i : Nat} (hi : i < k) : ∃ (q : Qy) (B : Option Addr) (c b off : Nat), Hid (l[i]? = some q) ∧ A = some ⟨b, off, none⟩ ∧ S b ∧ b < w.heap.size ∧ Hid (QAt w S (qV q.op q.n q.s B q.kids.length c) q) ∧ i64P q.op ∧ i64P q.n ∧ q.s.length ≤ 9223372036854775807 ∧ q.kids.length ≤ c ∧ c ≤ 9223372036854775807 ∧
    w.cell? ⟨b, off + i * 4, none⟩ = some (.int .i64 q.op) ∧ w.cell? ⟨b, off + i * 4 + 1, none⟩ = some (.int .i64 q.n) ∧ w.cell? ⟨b, off + i * 4 + 2, none⟩ = some (.string ⟨q.s.toArray⟩) ∧ w.cell? ⟨b, off + i * 4 + 3, none⟩ = some (.slice B q.kids.length c) := by
  obtain ⟨hk, V, hA, hq⟩ := h
  obtain ⟨b, off, e, hS, hb, hc⟩ := hA (by omega)
  have hg : l[i]? = some (l[i]'(by omega)) := List.getElem?_eq_getElem (by omega)
  have hv := hq i _ hg
  generalize l[i]'(by omega) = q at *
  obtain ⟨B, c, hv2, h1, h2, h3, h4, h5, _⟩ := hv.open_
  have f := fun j u => hc i j u hi
  rw [hv2] at f hv
  exact ⟨q, B, c, b, off, hg, e, hS, hb, hv, h1, h2, h3, h4, h5, f 0 _ rfl, f 1 _ rfl, f 2 _ rfl, f 3 _ rfl⟩
end
/-- a query that came in -/
theorem open_query_cells {H : Type} {enc : TypeId × Value → H} {W : World} : ∀ (n : Nat) (cs : List Value) (y : DataW H × List MemPlace), DataW.trod enc Try.prog W 0 (fun _ => true) true n 24 cs = some y → ∃ q, QAt W (fun _ => True) cs.toArray q := by
  intro n
  induction n using Nat.strongRecOn with
  | _ n ih =>
    intro cs y h
    obtain ⟨xs, m, hm, _, hlen, hxl, hf⟩ := DataW.trod_struct Try.underlying24 h
    have hC : Try.prog.cellsOf 24 = 4 := by kernel_rfl
    rw [hC] at hlen
    obtain ⟨c0, c1, c2, c3, rfl⟩ : ∃ c0 c1 c2 c3, cs = [c0, c1, c2, c3] := by
      match cs, hlen with
      | [c0, c1, c2, c3], _ => exact ⟨c0, c1, c2, c3, rfl⟩
    have hi : Try.prog.cellsOf 3 = 1 := by kernel_rfl
    have hst : Try.prog.cellsOf 9 = 1 := by kernel_rfl
    have hsl : Try.prog.cellsOf 22 = 1 := by kernel_rfl
    match xs, hxl with
    | [y0, y1, y2, y3], _ =>
      have t0 := hf 0 _ rfl
      have t1 := hf 1 _ rfl
      have t2 := hf 2 _ rfl
      have t3 := hf 3 _ rfl
      simp only [hi, hst, hsl, List.drop_zero, List.drop_succ_cons, List.take_succ_cons, List.take_zero, List.getElem?_cons_zero, List.getElem?_cons_succ] at t0 t1 t2 t3
      obtain ⟨o, e0, _, b0⟩ := DataW.trod_int Try.underlying3 t0
      obtain ⟨nn, e1, _, b1⟩ := DataW.trod_int Try.underlying3 t1
      obtain ⟨s, e2, _, b2⟩ := DataW.trod_string Try.underlying9 t2
      injection e0 with e0
      injection e1 with e1
      injection e2 with e2
      subst e0
      subst e1
      subst e2
      have hs : s = ⟨s.data.toList.toArray⟩ := by simp
      have hsz : s.data.toList.length ≤ 9223372036854775807 := by have : s.data.toList.length = s.size := Array.length_toList; unfold maxLen at b2; omega
      rw [hs]
      generalize s.data.toList = sl at *
      rcases DataW.trod_slice Try.underlying22 t3 with ⟨e3, _⟩ | ⟨a, len, cap, elems, rest, n', hn', e3, _, _, hl, hm', hel, hx, _, _⟩
      · injection e3 with e3
        subst e3
        exact ⟨⟨o, nn, sl, []⟩, .mk (fun _ => #[]) rfl (bounds_i64 b0) (bounds_i64 b1) hsz ⟨Nat.le_refl _, by omega⟩ (fun h => absurd h (by omega)) (by simp)⟩
      · injection e3 with e3
        subst e3
        unfold maxLen at hm'
        rw [hC] at hx
        have hsub : ∀ i, i < len → ∃ p : Array Value × Qy, p.1.size = 4 ∧ (∀ j, j < 4 → W.cell? ((a.add (i * 4)).add j) = p.1[j]?) ∧ QAt W (fun _ => True) p.1 p.2 := by
          intro i hi
          have hxi := hx i hi
          rw [List.getElem?_eq_getElem (by omega)] at hxi
          obtain ⟨cs', h1, h2⟩ := Option.bind_eq_some_iff.1 hxi
          obtain ⟨q, hq⟩ := ih n' (by omega) cs' _ h2
          obtain ⟨_, hl4, hc⟩ := World.cells?_some h1
          exact ⟨⟨cs'.toArray, q⟩, by simpa using hl4, fun j hj => by rw [hc j hj]; simp, hq⟩
        haveI : Inhabited (Array Value × Qy) := ⟨⟨#[], .zero⟩⟩
        obtain ⟨f, hf⟩ := choose_lt hsub
        refine ⟨⟨o, nn, sl, (List.range len).map fun i => (f i).2⟩, .mk (fun i => (f i).1) (by simp) (bounds_i64 b0) (bounds_i64 b1) hsz ⟨hl, hm'⟩ (fun h0 => ?_) (fun i q hq => ?_)⟩
        · have h1 := (hf 0 h0).2.1 0 (by omega)
          have h2 : ∃ u, (f 0).1[0]? = some u := ⟨_, Array.getElem?_eq_getElem (by have := (hf 0 h0).1; omega)⟩
          obtain ⟨u, hu⟩ := h2
          rw [hu] at h1
          obtain ⟨b, off, spot⟩ := a
          have hsp : spot = none := by
            have := World.cell?_spot h1
            simpa [Addr.add] using this
          subst hsp
          have hb : b < W.heap.size := by
            have := World.block_lt_of_cell? W _ h1
            rwa [block_of_add, block_of_add] at this
          refine ⟨b, off, rfl, trivial, hb, fun i j u hi hu => ?_⟩
          have hj : j < 4 := by
            have := (hf i hi).1
            rcases Nat.lt_or_ge j 4 with h | h
            · exact h
            · rw [Array.getElem?_eq_none (by omega)] at hu; cases hu
          have h3 := (hf i hi).2.1 j hj
          rw [hu, add_lit, add_lit] at h3
          exact h3
        · have hi : i < len := by
            rcases Nat.lt_or_ge i len with h | h
            · exact h
            · rw [List.getElem?_eq_none (by simpa using h)] at hq; cases hq
          simp only [List.getElem?_map, List.getElem?_range hi, Option.map_some] at hq
          injection hq with hq
          rw [← hq]
          exact (hf i hi).2.2
/-- a query that came in -/
theorem open_query {H : Type} {enc : TypeId × Value → H} {W : World} {base : Nat} {v : Value} {d : DataW H} {p : List MemPlace} (hv : Value.okWide Try.prog W .any base 24 v) (h0 : DataW.Trod enc Try.prog W 0 (fun _ => true) true 24 v d p) :
    ∃ vs q, v = .agg vs ∧ QAt W (fun _ => True) vs q := by
  obtain ⟨v0, v1, v2, v3, y0, y1, y2, y3, n, rfl, _, _, k0, k1, k2, k3⟩ := Joins.open_agg4 Try.underlying24 (by kernel_rfl) (by kernel_rfl) hv h0
  obtain ⟨o, e0, _, b0⟩ := DataW.trod_int Try.underlying3 k0
  obtain ⟨nn, e1, _, b1⟩ := DataW.trod_int Try.underlying3 k1
  obtain ⟨s, e2, _, b2⟩ := DataW.trod_string Try.underlying9 k2
  injection e0 with e0
  injection e1 with e1
  injection e2 with e2
  have h3 : ∃ A len cap, v3 = .slice A len cap := by
    rcases DataW.trod_slice Try.underlying22 k3 with ⟨e3, _⟩ | ⟨a, len, cap, elems, rest, n', hn', e3, _⟩
    · injection e3 with e3; exact ⟨_, _, _, e3⟩
    · injection e3 with e3; exact ⟨_, _, _, e3⟩
  obtain ⟨A, len, cap, e3⟩ := h3
  subst e0
  subst e1
  subst e2
  subst e3
  obtain ⟨fuel, hf⟩ := h0
  obtain ⟨q, hq⟩ := open_query_cells fuel _ _ hf
  exact ⟨_, q, rfl, hq⟩
end Go.Proofs.Ytjnhhdkphcbflaa
