/-
  An element that came in, of bounded bulk.
-/
import Derived.Test.YtjmmgekildlckaaRsA
import Derived.Test.YtjmmgekildlckaaRows
namespace Go.Proofs.Ytjmmgekildlckaa
open Go.ChangeShapes Go.WideShapes Go.ChangeAt Go.Deep
open Go.RowKit Go.Nst
set_option maxRecDepth 100000
set_option linter.unusedVariables false
set_option linter.unusedSimpArgs false

theorem bulk_pos {H : Type} (d : DataW H) : 1 ≤ Rows.uptoBulk d := by
  cases d with
  | lit l => cases l <;> simp [Rows.uptoBulk]
  | nil => simp [Rows.uptoBulk]
  | ptr d => simp [Rows.uptoBulk]
  | slice elems spare => simp [Rows.uptoBulk]
  | agg parts => simp [Rows.uptoBulk]
  | iface t d => simp [Rows.uptoBulk]
  | map entries => simp [Rows.uptoBulk]
  | held h => simp [Rows.uptoBulk]
theorem bulk_mem {H : Type} {d : DataW H} {l : List (DataW H)} (h : d ∈ l) : Rows.uptoBulk d ≤ Rows.uptoBulkAll l := by
  induction l with
  | nil => cases h
  | cons x r ih =>
    simp only [Rows.uptoBulkAll]
    cases List.mem_cons.1 h with
    | inl e => subst e; omega
    | inr e => have := ih e; omega
theorem bulk_len {H : Type} (l : List (DataW H)) : l.length ≤ Rows.uptoBulkAll l := by
  induction l with
  | nil => simp [Rows.uptoBulkAll]
  | cons x r ih => have := bulk_pos x; simp only [Rows.uptoBulkAll, List.length_cons]; omega
/-- a slice that came in, whose elements open -/
theorem open_rowsB {α : Type} [Inhabited α] {sz : Nat} {P : World → (Nat → Prop) → Array Value → α → Prop} {e T : TypeId} {H : Type} {enc : TypeId × Value → H} {W : World} (hT : Try.prog.underlying T = some (.slice e)) (hC : Try.prog.cellsOf e = sz) (hP : ElP sz P)
    {n : Nat} (hel : ∀ (n' : Nat), n' < n → ∀ (cs : List Value) (y : DataW H × List MemPlace), DataW.trod enc Try.prog W 0 (fun _ => true) true n' e cs = some y → Rows.uptoBulk y.1 ≤ 1048576 → ∃ x, P W (fun _ => True) cs.toArray x)
    {v : Value} {y : DataW H × List MemPlace} (h : DataW.trod enc Try.prog W 0 (fun _ => true) true n T [v] = some y) (hb : Rows.uptoBulk y.1 ≤ 1048576) :
    ∃ A k c l, v = .slice A k c ∧ k ≤ c ∧ c ≤ 9223372036854775807 ∧ k ≤ 1048576 ∧ RwA sz P W (fun _ => True) A k l := by
  rcases DataW.trod_slice hT h with ⟨e3, _⟩ | ⟨a, len, cap, elems, rest, n', hn', e3, hy, _, hl, hm', hel2, hx, _, _⟩
  · injection e3 with e3
    exact ⟨none, 0, 0, [], e3, Nat.le_refl _, by omega, by omega, RwA.nil _⟩
  · injection e3 with e3
    unfold maxLen at hm'
    rw [hC] at hx
    subst hy
    simp only [Rows.uptoBulk] at hb
    have hlb := bulk_len (elems.map (·.1))
    rw [List.length_map] at hlb
    have hsub : ∀ i, i < len → ∃ p : Array Value × α, p.1.size = sz ∧ (∀ j, j < sz → W.cell? ((a.add (i * sz)).add j) = p.1[j]?) ∧ P W (fun _ => True) p.1 p.2 := by
      intro i hi
      have hxi := hx i hi
      rw [List.getElem?_eq_getElem (by omega)] at hxi
      obtain ⟨cs', h1, h2⟩ := Option.bind_eq_some_iff.1 hxi
      have hbm : Rows.uptoBulk (elems[i]'(by omega)).1 ≤ Rows.uptoBulkAll (elems.map (·.1)) := bulk_mem (List.mem_map.2 ⟨_, List.getElem_mem _, rfl⟩)
      obtain ⟨q, hq⟩ := hel n' (by omega) cs' _ h2 (by omega)
      obtain ⟨_, hl4, hc⟩ := World.cells?_some h1
      exact ⟨⟨cs'.toArray, q⟩, hP.size hq, fun j hj => by rw [hc j hj]; simp, hq⟩
    haveI : Inhabited (Array Value × α) := ⟨⟨#[], default⟩⟩
    obtain ⟨f, hf⟩ := choose_lt hsub
    refine ⟨a, len, cap, (List.range len).map fun i => (f i).2, e3, hl, by omega, by omega, by simp, fun i => (f i).1, fun h0 => ?_, fun i q hq => ?_⟩
    · have hpos := hP.pos
      have h1 := (hf 0 h0).2.1 0 hpos
      have h2 : ∃ u, (f 0).1[0]? = some u := ⟨_, Array.getElem?_eq_getElem (by have := (hf 0 h0).1; omega)⟩
      obtain ⟨u, hu⟩ := h2
      rw [hu] at h1
      obtain ⟨b, off, spot⟩ := a
      have hsp : spot = none := by
        have := World.cell?_spot h1
        simpa [Addr.add] using this
      subst hsp
      have hb : b < W.heap.size := by
        have := World.block_lt_of_cell? W _ h1
        rwa [block_of_add, block_of_add] at this
      refine ⟨b, off, rfl, trivial, hb, fun i j u hi hu => ?_⟩
      have hu : (f i).1[j]? = some u := hu
      have hj : j < sz := by
        have := (hf i hi).1
        rcases Nat.lt_or_ge j sz with h | h
        · exact h
        · rw [Array.getElem?_eq_none (by omega)] at hu; cases hu
      have h3 := (hf i hi).2.1 j hj
      rw [hu, add_lit, add_lit] at h3
      exact h3
    · have hi : i < len := by
        rcases Nat.lt_or_ge i len with h | h
        · exact h
        · rw [List.getElem?_eq_none (by simpa using h)] at hq; cases hq
      simp only [List.getElem?_map, List.getElem?_range hi, Option.map_some] at hq
      injection hq with hq
      rw [← hq]
      exact (hf i hi).2.2
/-- an attribute of small texts -/
def XaB (w : World) (S : Nat → Prop) (v : Array Value) (a : Xat) : Prop := XaP w S v a ∧ a.nm.length ≤ 1100000 ∧ a.vl.length ≤ 1100000
theorem xaB : ElP 2 XaB where
  pos := by omega
  size := fun h => xaP.size h.1
  one := fun h => xaP.one h.1
  keep := fun h1 h2 h3 h => ⟨xaP.keep h1 h2 h3 h.1, h.2⟩
theorem open_xaB {H : Type} {enc : TypeId × Value → H} {W : World} (n : Nat) (cs : List Value) (y : DataW H × List MemPlace) (h : DataW.trod enc Try.prog W 0 (fun _ => true) true n 51 cs = some y) (hb : Rows.uptoBulk y.1 ≤ 1048576) : ∃ x, XaB W (fun _ => True) cs.toArray x := by
  obtain ⟨xs, m, hm, hy, hlen, hxl, hf⟩ := DataW.trod_struct Try.underlying51 h
  have hC : Try.prog.cellsOf 51 = 2 := by kernel_rfl
  rw [hC] at hlen
  obtain ⟨c0, c1, rfl⟩ : ∃ c0 c1, cs = [c0, c1] := by
    match cs, hlen with
    | [c0, c1], _ => exact ⟨c0, c1, rfl⟩
  have hst : Try.prog.cellsOf 9 = 1 := by kernel_rfl
  subst hy
  match xs, hxl with
  | [y0, y1], _ =>
    have t0 := hf 0 _ rfl
    have t1 := hf 1 _ rfl
    simp only [hst, List.drop_zero, List.drop_succ_cons, List.take_succ_cons, List.take_zero, List.getElem?_cons_zero, List.getElem?_cons_succ] at t0 t1
    obtain ⟨s, e0, hy0, b0⟩ := DataW.trod_string Try.underlying9 t0
    obtain ⟨u, e1, hy1, b1⟩ := DataW.trod_string Try.underlying9 t1
    injection e0 with e0
    injection e1 with e1
    subst e0
    subst e1
    subst hy0
    subst hy1
    simp only [List.map_cons, List.map_nil, Rows.uptoBulk, Rows.uptoBulkAll] at hb
    exact ⟨⟨s.data.toList, u.data.toList⟩, ⟨by simp [xaV], by show s.data.toList.length ≤ _; omega, by show u.data.toList.length ≤ _; omega⟩, by show s.data.toList.length ≤ _; omega, by show u.data.toList.length ≤ _; omega⟩
theorem xa_of_b {w : World} {S : Nat → Prop} {A : Option Addr} {k : Nat} {l : List Xat} (h : RwA 2 XaB w S A k l) : XaA w S A k l ∧ ∀ a ∈ l, a.nm.length ≤ 1100000 ∧ a.vl.length ≤ 1100000 := by
  obtain ⟨hk, V, hA, hq⟩ := h
  refine ⟨⟨hk, V, hA, fun i x hx => (hq i x hx).1⟩, fun a ha => ?_⟩
  obtain ⟨i, hi, rfl⟩ := List.mem_iff_getElem.1 ha
  exact (hq i _ (List.getElem?_eq_getElem hi)).2
/-- an element that came in -/
theorem open_em {H : Type} {enc : TypeId × Value → H} {W : World} : ∀ (n : Nat) (cs : List Value) (y : DataW H × List MemPlace), DataW.trod enc Try.prog W 0 (fun _ => true) true n 25 cs = some y → Rows.uptoBulk y.1 ≤ 1048576 → ∃ q, EmP W (fun _ => True) cs.toArray q := by
  intro n
  induction n using Nat.strongRecOn with
  | _ n ih =>
    intro cs y h hb
    obtain ⟨xs, m, hm, hy, hlen, hxl, hf⟩ := DataW.trod_struct Try.underlying25 h
    have hC : Try.prog.cellsOf 25 = 4 := by kernel_rfl
    rw [hC] at hlen
    obtain ⟨c0, c1, c2, c3, rfl⟩ : ∃ c0 c1 c2 c3, cs = [c0, c1, c2, c3] := by
      match cs, hlen with
      | [c0, c1, c2, c3], _ => exact ⟨c0, c1, c2, c3, rfl⟩
    have hst : Try.prog.cellsOf 9 = 1 := by kernel_rfl
    have hsa : Try.prog.cellsOf 22 = 1 := by kernel_rfl
    have hsl : Try.prog.cellsOf 23 = 1 := by kernel_rfl
    subst hy
    match xs, hxl with
    | [y0, y1, y2, y3], _ =>
      have t0 := hf 0 _ rfl
      have t1 := hf 1 _ rfl
      have t2 := hf 2 _ rfl
      have t3 := hf 3 _ rfl
      simp only [hst, hsa, hsl, List.drop_zero, List.drop_succ_cons, List.take_succ_cons, List.take_zero, List.getElem?_cons_zero, List.getElem?_cons_succ] at t0 t1 t2 t3
      simp only [List.map_cons, List.map_nil, Rows.uptoBulk, Rows.uptoBulkAll] at hb
      obtain ⟨s, e0, hy0, b0⟩ := DataW.trod_string Try.underlying9 t0
      obtain ⟨u, e2, hy2, b2⟩ := DataW.trod_string Try.underlying9 t2
      obtain ⟨A, k, c, l, e1, hkc, hc, hkb, hA⟩ := open_rowsB Try.underlying22 (by kernel_rfl) xaB (fun n' _ cs y h hb => open_xaB n' cs y h hb) t1 (by omega)
      haveI : Inhabited Elm := ⟨.zero⟩
      obtain ⟨B, m2, d, l2, e3, hmd, hd, hmb, hB⟩ := open_rowsB Try.underlying23 hC emP (fun n' hn' cs y h hb => ih n' (by omega) cs y h hb) t3 (by omega)
      injection e0 with e0
      injection e2 with e2
      subst e0
      subst e1
      subst e2
      subst e3
      subst hy0
      subst hy2
      simp only [Rows.uptoBulk] at hb
      have hl := hA.len
      have hl2 := hB.len
      subst hl
      subst hl2
      obtain ⟨hA1, hA2⟩ := xa_of_b hA
      refine ⟨.mk s.data.toList l u.data.toList l2, ?_⟩
      have := em_make (w := W) (S := fun _ => True) (e := .mk s.data.toList l u.data.toList l2) (A := A) (c := c) (B := B) (d := d) ⟨by show s.data.toList.length ≤ _; omega, by show u.data.toList.length ≤ _; omega, ⟨hkc, hc⟩, ⟨hmd, hd⟩, ⟨by show l.length ≤ _; omega, by show l2.length ≤ _; omega⟩, hA2, hA1, hB⟩
      simpa [emV, Elm.nm, Elm.tx, Elm.ats, Elm.kids] using this
theorem open_element {H : Type} {enc : TypeId × Value → H} {W : World} {base : Nat} {v : Value} {d : DataW H} {p : List MemPlace} (hv : Value.okWide Try.prog W .any base 25 v) (h0 : DataW.Trod enc Try.prog W 0 (fun _ => true) true 25 v d p) (hb : Rows.uptoBulk d ≤ 1048576) :
    ∃ vs q, v = .agg vs ∧ EmP W (fun _ => True) vs q := by
  obtain ⟨cs, rfl, hsz⟩ := okWide_struct Try.underlying25 hv
  obtain ⟨fuel, hf⟩ := h0
  obtain ⟨q, hq⟩ := open_em fuel _ _ hf hb
  exact ⟨cs, q, rfl, by simpa [Value.cells] using hq⟩
end Go.Proofs.Ytjmmgekildlckaa
