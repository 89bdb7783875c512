/-
  Rows of elements of any kind in memory: a slice that reads as a list; one of the call's own; opened, kept, made, appended to.
-/
import Derived.Test.YtjmmgekildlckaaBas
import Derived.Test.YtjmmgekildlckaaProg
import Derived.Lib.SmallJoins
import Derived.Deep.Slices
namespace Go.Proofs.Ytjmmgekildlckaa
open Go.ChangeShapes Go.WideShapes Go.ChangeAt Go.Deep
open Go.RowKit Go.Nst
set_option maxRecDepth 100000
set_option linter.unusedVariables false
set_option linter.unusedSimpArgs false

/-- what an element's cells read as: so many cells, each one value; it stays where its blocks stay -/
structure ElP {α : Type} (sz : Nat) (P : World → (Nat → Prop) → Array Value → α → Prop) : Prop where
  pos : 0 < sz
  size : ∀ {w S v x}, P w S v x → v.size = sz
  one : ∀ {w S v x}, P w S v x → ∀ u ∈ v.toList, u.oneCell' = true
  keep : ∀ {w w' : World} {S S' : Nat → Prop} {v x}, (∀ b, S b → b < w.heap.size → w'.heap[b]? = w.heap[b]?) → w.heap.size ≤ w'.heap.size → (∀ b, S b → b < w.heap.size → S' b) → P w S v x → P w' S' v x
/-- a slice reads as a list; all of it, and the row, lies in blocks of S -/
def RwA {α : Type} (sz : Nat) (P : World → (Nat → Prop) → Array Value → α → Prop) (w : World) (S : Nat → Prop) (A : Option Addr) (k : Nat) (l : List α) : Prop :=
  l.length = k ∧ ∃ V : Nat → Array Value, (0 < k → ∃ b off, A = some ⟨b, off, none⟩ ∧ S b ∧ b < w.heap.size ∧ ∀ (i j : Nat) (u : Value), i < k → (V i)[j]? = some u → w.cell? ⟨b, off + i * sz + j, none⟩ = some u) ∧ ∀ (i : Nat) (x : α), l[i]? = some x → P w S (V i) x
/-- .. wherever the row itself lies -/
def RwR {α : Type} (sz : Nat) (P : World → (Nat → Prop) → Array Value → α → Prop) (w : World) (S : Nat → Prop) (A : Option Addr) (k : Nat) (l : List α) : Prop :=
  l.length = k ∧ ∃ V : Nat → Array Value, (0 < k → ∃ b off, A = some ⟨b, off, none⟩ ∧ b < w.heap.size ∧ ∀ (i j : Nat) (u : Value), i < k → (V i)[j]? = some u → w.cell? ⟨b, off + i * sz + j, none⟩ = some u) ∧ ∀ (i : Nat) (x : α), l[i]? = some x → P w S (V i) x
/-- a row of the call's own; what stands within lies in blocks of S, not in the row's -/
def RwO {α : Type} (e : TypeId) (sz : Nat) (P : World → (Nat → Prop) → Array Value → α → Prop) (w : World) (base : Nat) (S : Nat → Prop) (A : Option Addr) (n c : Nat) (l : List α) : Prop :=
  ∃ xs : List Value, w.ownsRow base e sz (.slice A n c) n xs ∧ l.length = n ∧ ∃ V : Nat → Array Value, (∀ (i j : Nat) (u : Value), i < n → (V i)[j]? = some u → xs[i * sz + j]? = some u) ∧ ∀ (i : Nat) (x : α), l[i]? = some x → P w (fun b => S b ∧ some b ≠ (Value.slice A n c).ownBlock) (V i) x
/-- arrays of so many cells, one behind the other -/
def rowZ (V : Nat → Array Value) (m : Nat) : List Value := (List.range m).flatMap fun i => (V i).toList
theorem rowZ_succ (V : Nat → Array Value) (m : Nat) : rowZ V (m + 1) = rowZ V m ++ (V m).toList := by simp [rowZ, List.range_succ]
theorem rowZ_len {sz : Nat} (V : Nat → Array Value) : ∀ m, (∀ i, i < m → (V i).size = sz) → (rowZ V m).length = m * sz
  | 0, _ => by simp [rowZ]
  | m + 1, h => by
    rw [rowZ_succ, List.length_append, rowZ_len V m fun i hi => h i (by omega), Array.length_toList, h m (by omega), Nat.succ_mul]
theorem rowZ_get {sz : Nat} (V : Nat → Array Value) : ∀ m, (∀ i, i < m → (V i).size = sz) → ∀ i j, i < m → j < sz → (rowZ V m)[i * sz + j]? = (V i)[j]?
  | 0, _, i, j, hi, _ => absurd hi (by omega)
  | m + 1, h, i, j, hi, hj => by
    have hl := rowZ_len V m fun i hi => h i (by omega)
    rw [rowZ_succ]
    by_cases he : i = m
    · subst he
      rw [List.getElem?_append_right (by omega), hl]
      simp
    · have : (i + 1) * sz ≤ m * sz := Nat.mul_le_mul_right sz (by omega)
      rw [Nat.succ_mul] at this
      rw [List.getElem?_append_left (by omega)]
      exact rowZ_get V m (fun i hi => h i (by omega)) i j (by omega) hj

section
variable {α : Type} {sz : Nat} {P : World → (Nat → Prop) → Array Value → α → Prop} {w w' : World} {S S' : Nat → Prop} {A : Option Addr} {k n c base : Nat} {l : List α} {e : TypeId}
theorem RwA.nil (A : Option Addr) : RwA sz P w S A 0 [] := ⟨rfl, fun _ => #[], fun h => absurd h (by omega), by simp⟩
theorem RwR.nil (A : Option Addr) : RwR sz P w S A 0 [] := ⟨rfl, fun _ => #[], fun h => absurd h (by omega), by simp⟩
theorem RwA.len (h : RwA sz P w S A k l) : l.length = k := h.1
theorem RwR.len (h : RwR sz P w S A k l) : l.length = k := h.1
theorem RwA.keep (hP : ElP sz P) (hS : ∀ b, S b → b < w.heap.size → w'.heap[b]? = w.heap[b]?) (hz : w.heap.size ≤ w'.heap.size) (hSS : ∀ b, S b → b < w.heap.size → S' b) (h : RwA sz P w S A k l) : RwA sz P w' S' A k l := by
  obtain ⟨hk, V, hA, hq⟩ := h
  refine ⟨hk, V, fun h0 => ?_, fun i q hi => hP.keep hS hz hSS (hq i q hi)⟩
  obtain ⟨b, off, e, hb, hlt, hcell⟩ := hA h0
  refine ⟨b, off, e, hSS b hb hlt, by omega, fun i j u hi hu => ?_⟩
  rw [World.cell?_of_block (hS b hb hlt)]
  exact hcell i j u hi hu
theorem RwA.bel (hP : ElP sz P) (h : RwA sz P w S A k l) (hb : Below w.heap.size w w') : RwA sz P w' S A k l := h.keep hP (fun b _ hlt => hb.block b hlt) hb.size (fun _ h _ => h)
theorem RwA.wide (hP : ElP sz P) (h : RwA sz P w S A k l) (hSS : ∀ b, S b → b < w.heap.size → S' b) : RwA sz P w S' A k l := h.keep hP (fun _ _ _ => rfl) (Nat.le_refl _) hSS
theorem RwA.grown (hP : ElP sz P) (h : RwA sz P w S A k l) {row : Option Nat} (hg : w.grownBy w' row) (hS : ∀ g, row = some g → ¬ S g) : RwA sz P w' S A k l :=
  h.keep hP (fun b hb hlt => hg.block b hlt (fun e => hS b e.symm hb)) hg.size (fun _ h _ => h)
theorem ElP.bel (hP : ElP sz P) {v : Array Value} {x : α} (h : P w S v x) (hb : Below w.heap.size w w') : P w' S v x := hP.keep (fun b _ hlt => hb.block b hlt) hb.size (fun _ h _ => h) h
theorem ElP.wide (hP : ElP sz P) {v : Array Value} {x : α} (h : P w S v x) (hSS : ∀ b, S b → b < w.heap.size → S' b) : P w S' v x := hP.keep (fun _ _ _ => rfl) (Nat.le_refl _) hSS h
theorem ElP.grown (hP : ElP sz P) {v : Array Value} {x : α} (h : P w S v x) {row : Option Nat} (hg : w.grownBy w' row) (hS : ∀ g, row = some g → ¬ S g) : P w' S v x :=
  hP.keep (fun b hb hlt => hg.block b hlt (fun e => hS b e.symm hb)) hg.size (fun _ h _ => h) h
/-- the i-th one: its cells -/
theorem RwA.get (h : RwA sz P w S A k l) {i : Nat} (hi : i < k) : ∃ (x : α) (v : Array Value) (b off : Nat), l[i]? = some x ∧ A = some ⟨b, off, none⟩ ∧ S b ∧ b < w.heap.size ∧ P w S v x ∧ ∀ (j : Nat) (u : Value), v[j]? = some u → w.cell? ⟨b, off + i * sz + j, none⟩ = some u := by
  obtain ⟨hk, V, hA, hq⟩ := h
  obtain ⟨b, off, e, hS, hb, hc⟩ := hA (by omega)
  have hg : l[i]? = some (l[i]'(by omega)) := List.getElem?_eq_getElem (by omega)
  exact ⟨_, V i, b, off, hg, e, hS, hb, hq i _ hg, fun j u hu => hc i j u hi hu⟩
theorem RwA.r (hP : ElP sz P) (h : RwA sz P w S A k l) (hS : ∀ b, S b → b < w.heap.size → S' b) : RwR sz P w S' A k l := by
  obtain ⟨hk, V, hA, hq⟩ := h
  exact ⟨hk, V, fun h0 => let ⟨b, off, e, _, hb, hc⟩ := hA h0; ⟨b, off, e, hb, hc⟩, fun i q hi => hP.wide (hq i q hi) hS⟩
theorem RwR.at_ (h : RwR sz P w S A n l) (hS : ∀ b off, A = some ⟨b, off, none⟩ → S b) : RwA sz P w S A n l := by
  obtain ⟨hk, V, hA, hq⟩ := h
  exact ⟨hk, V, fun h0 => let ⟨b, off, e, hb, hc⟩ := hA h0; ⟨b, off, e, hS b off e, hb, hc⟩, hq⟩
theorem RwR.reads (hP : ElP sz P) (h : RwR sz P w S A k l) : ∃ V : Nat → Array Value, Reads w w.heap.size sz A k (rowZ V k) ∧ (∀ i, i < k → (V i).size = sz) ∧ (∀ u ∈ rowZ V k, u.oneCell' = true) ∧ ∀ (i : Nat) (x : α), l[i]? = some x → P w S (V i) x := by
  obtain ⟨hk, V, hA, hq⟩ := h
  have hget : ∀ i, i < k → ∃ x, P w S (V i) x := fun i hi => by
    have hg : l[i]? = some (l[i]'(by omega)) := List.getElem?_eq_getElem (by omega)
    exact ⟨_, hq i _ hg⟩
  have h4 : ∀ i, i < k → (V i).size = sz := fun i hi => let ⟨x, hx⟩ := hget i hi; hP.size hx
  have hpos := hP.pos
  refine ⟨V, ⟨rowZ_len V k h4, fun h0 => ?_⟩, h4, fun u hu => ?_, hq⟩
  · obtain ⟨b, off, e, hb, hc⟩ := hA h0
    refine ⟨_, e, hb, fun j u hu => ?_⟩
    have hj : j < k * sz := by
      have := (List.getElem?_eq_some_iff.1 hu).1
      rwa [rowZ_len V k h4] at this
    have hd : j / sz < k := by rw [Nat.div_lt_iff_lt_mul hpos]; exact hj
    have hm : j % sz < sz := Nat.mod_lt _ hpos
    have hjj : j = j / sz * sz + j % sz := by have := Nat.div_add_mod j sz; rw [Nat.mul_comm] at this; omega
    rw [hjj] at hu ⊢
    rw [rowZ_get V k h4 _ _ hd hm] at hu
    rw [add_lit, ← Nat.add_assoc]
    exact hc _ _ u hd hu
  · obtain ⟨i, hi, hui⟩ := List.mem_flatMap.1 hu
    obtain ⟨x, hx⟩ := hget i (by simpa using hi)
    exact hP.one hx u hui
/-- a literal of one element -/
theorem RwR.lit (hP : ElP sz P) {vs : Array Value} {x : α} (h : P w S vs x) : RwR sz P (w.alloc (.cells vs e)) S (some ⟨w.heap.size, 0, none⟩) 1 [x] := by
  refine ⟨rfl, fun _ => vs, fun _ => ⟨_, _, rfl, by simp, fun i j u hi hu => ?_⟩, fun i y hi => ?_⟩
  · have : i = 0 := by omega
    subst this
    rw [Nat.zero_mul, Nat.add_zero, Nat.zero_add, (Blk.new w e vs).cell]
    exact hu
  · have : i = 0 := by
      rcases Nat.lt_or_ge i 1 with h | h
      · omega
      · rw [List.getElem?_eq_none (by simpa using h)] at hi; cases hi
    subst this
    simp only [List.getElem?_cons_zero, Option.some.injEq] at hi
    subst hi
    exact hP.bel h (bel_alloc (Below.refl _ _) _)
/-- a row's block: one element -/
theorem RwR.blk1 {g : Nat} {vs : Array Value} {x : α} (hB : Blk w g e vs) (h : P w S vs x) : RwR sz P w S (some ⟨g, 0, none⟩) 1 [x] := by
  refine ⟨rfl, fun _ => vs, fun _ => ⟨_, _, rfl, hB.lt, fun i j u hi hu => ?_⟩, fun i y hi => ?_⟩
  · have : i = 0 := by omega
    subst this
    rw [Nat.zero_mul, Nat.add_zero, Nat.zero_add, hB.cell]
    exact hu
  · have : i = 0 := by
      rcases Nat.lt_or_ge i 1 with h | h
      · omega
      · rw [List.getElem?_eq_none (by simpa using h)] at hi; cases hi
    subst this
    simp only [List.getElem?_cons_zero, Option.some.injEq] at hi
    subst hi
    exact h
/-- .. two -/
theorem RwR.blk2 {g : Nat} {vs us : Array Value} {x y : α} (hsz : vs.size = sz) (hB : Blk w g e (vs ++ us)) (h : P w S vs x) (h2 : P w S us y) : RwR sz P w S (some ⟨g, 0, none⟩) 2 [x, y] := by
  refine ⟨rfl, fun i => if i = 0 then vs else us, fun _ => ⟨_, _, rfl, hB.lt, fun i j u hi hu => ?_⟩, fun i z hi => ?_⟩
  · have hc := hB.cell (0 + i * sz + j)
    rw [hc]
    by_cases h0 : i = 0
    · subst h0
      simp only [if_true] at hu
      have hj : j < vs.size := (Array.getElem?_eq_some_iff.1 hu).1
      rw [Nat.zero_mul, Nat.add_zero, Nat.zero_add, Array.getElem?_append_left hj]
      exact hu
    · obtain rfl : i = 1 := by omega
      simp only [if_neg h0] at hu
      rw [Nat.one_mul, Nat.zero_add, Array.getElem?_append_right (by omega), show sz + j - vs.size = j by omega]
      exact hu
  · match i, hi with
    | 0, hi => simp only [List.getElem?_cons_zero, Option.some.injEq] at hi; subst hi; simpa using h
    | 1, hi => simp only [List.getElem?_cons_succ, List.getElem?_cons_zero, Option.some.injEq] at hi; subst hi; simpa using h2
    | k + 2, hi => simp at hi
theorem RwO.nil : RwO e sz P w base S none 0 0 [] := ⟨[], World.ownsRow_nil _ _ _ _, rfl, fun _ => #[], by intro i j u h; omega, by simp⟩
theorem RwO.len (h : RwO e sz P w base S A n c l) : l.length = n := by obtain ⟨_, _, h, _⟩ := h; exact h
theorem RwO.cap (h : RwO e sz P w base S A n c l) : n ≤ c ∧ c ≤ 9223372036854775807 := by obtain ⟨_, h, _⟩ := h; exact own_cap h
theorem RwO.lt (h : RwO e sz P w base S A n c l) : ∀ g, (Value.slice A n c).ownBlock = some g → base ≤ g ∧ g < w.heap.size := by obtain ⟨_, h, _⟩ := h; exact World.ownsRow.lt h
theorem RwO.bel (hP : ElP sz P) (h : RwO e sz P w base S A n c l) (hb : Below w.heap.size w w') : RwO e sz P w' base S A n c l := by
  obtain ⟨xs, h1, h2, V, h3, h4⟩ := h
  exact ⟨xs, own_below h1 hb, h2, V, h3, fun i q hi => hP.bel (h4 i q hi) hb⟩
theorem RwO.mono {base' : Nat} (h : RwO e sz P w base S A n c l) (hb : base' ≤ base) : RwO e sz P w base' S A n c l := by
  obtain ⟨xs, h1, h2, V, h3, h4⟩ := h
  exact ⟨xs, own_mono h1 hb, h2, V, h3, h4⟩
theorem RwO.wide (hP : ElP sz P) (h : RwO e sz P w base S A n c l) (hS : ∀ b, S b → b < w.heap.size → S' b) : RwO e sz P w base S' A n c l := by
  obtain ⟨xs, h1, h2, V, h3, h4⟩ := h
  exact ⟨xs, h1, h2, V, h3, fun i q hi => hP.wide (h4 i q hi) fun b hb hlt => ⟨hS b hb.1 hlt, hb.2⟩⟩
theorem RwO.grown (hP : ElP sz P) (h : RwO e sz P w base S A n c l) {row : Option Nat} (hg : w.grownBy w' row) (hrow : ∀ g, row = some g → ¬ S g ∧ (Value.slice A n c).ownBlock ≠ some g) : RwO e sz P w' base S A n c l := by
  obtain ⟨xs, h1, h2, V, h3, h4⟩ := h
  refine ⟨xs, own_only h1 hg (fun g hg' e2 => ?_), h2, V, h3, fun i q hi => hP.grown (h4 i q hi) hg fun g hg' hs => (hrow g hg').1 hs.1⟩
  exact (hrow g e2.symm).2 hg'
/-- it reads as a list -/
theorem RwO.qs (hP : ElP sz P) (h : RwO e sz P w base S A n c l) (hS : ∀ b, S b → b < w.heap.size → S' b) (hB : ∀ b, base ≤ b → b < w.heap.size → S' b) : RwA sz P w S' A n l := by
  obtain ⟨xs, h1, h2, V, h3, h4⟩ := h
  refine ⟨h2, V, fun h0 => ?_, fun i q hi => hP.wide (h4 i q hi) fun b hb hlt => hS b hb.1 hlt⟩
  obtain ⟨g, rfl, hg1, hg2, _⟩ := own_where h1 h0
  refine ⟨g, 0, rfl, hB g hg1 hg2, hg2, fun i j u hi hu => ?_⟩
  have := World.ownsRow.cells (g := g) h1 rfl _ u (h3 i j u hi hu)
  rw [add_lit] at this
  rw [Nat.zero_add] at this
  rw [Nat.zero_add]
  exact this
theorem RwO.qr (hP : ElP sz P) (h : RwO e sz P w base S A n c l) : RwR sz P w (fun b => S b ∧ some b ≠ (Value.slice A n c).ownBlock) A n l := by
  obtain ⟨xs, h1, h2, V, h3, h4⟩ := h
  refine ⟨h2, V, fun h0 => ?_, h4⟩
  obtain ⟨g, rfl, hg1, hg2, _⟩ := own_where h1 h0
  refine ⟨g, 0, rfl, hg2, fun i j u hi hu => ?_⟩
  have := World.ownsRow.cells (g := g) h1 rfl _ u (h3 i j u hi hu)
  rw [add_lit] at this
  rw [Nat.zero_add] at this
  rw [Nat.zero_add]
  exact this
/-- the i-th one: its cells, and where the row lies -/
theorem RwO.get (h : RwO e sz P w base S A n c l) {i : Nat} (hi : i < n) : ∃ (x : α) (v : Array Value) (g : Nat), l[i]? = some x ∧ A = some ⟨g, 0, none⟩ ∧ base ≤ g ∧ g < w.heap.size ∧ (∀ j, w.frozen? ⟨g, j, none⟩ = false) ∧ P w (fun b => S b ∧ b ≠ g) v x ∧ ∀ (j : Nat) (u : Value), v[j]? = some u → w.cell? ⟨g, i * sz + j, none⟩ = some u := by
  obtain ⟨xs, h1, h2, V, h3, h4⟩ := h
  obtain ⟨g, rfl, hg1, hg2, hf⟩ := own_where h1 (by omega)
  have hg : l[i]? = some (l[i]'(by omega)) := List.getElem?_eq_getElem (by omega)
  have e1 : (fun b => S b ∧ some b ≠ (Value.slice (some ⟨g, 0, none⟩) n c).ownBlock) = fun b => S b ∧ b ≠ g := by
    funext b
    simp [Value.ownBlock]
  have h5 := h4 i _ hg
  rw [e1] at h5
  refine ⟨_, V i, g, hg, rfl, hg1, hg2, hf, h5, fun j u hu => ?_⟩
  have := World.ownsRow.cells (g := g) h1 rfl _ u (h3 i j u hi hu)
  rw [add_lit, Nat.zero_add] at this
  exact this
/-- a cell of a row of the call's own is written anew -/
theorem own_setZ {s : Nat} {xs : List Value} (h : w.ownsRow base e s (.slice A n c) n xs) {g k : Nat} (hA : A = some ⟨g, 0, none⟩) (v : Value) : (w.setCell ⟨g, k, none⟩ v).ownsRow base e s (.slice A n c) n (xs.set k v) := by
  subst hA
  refine ⟨by rw [List.length_set]; exact h.1, ?_⟩
  rcases h.2 with ⟨e, rfl⟩ | ⟨g', cap, cur, hv, hg, hh, hnc, hcm, hcs, htake⟩
  · cases e
  · injection hv with hv1 hv2 hv3
    injection hv1 with hv1
    injection hv1 with hv1
    subst hv1
    subst hv3
    refine .inr ⟨g, c, cur.setIfInBounds k v, rfl, hg, ?_, hnc, hcm, by simpa using hcs, ?_⟩
    · simp [World.setCell, Array.getElem?_modify, hh]
    · have : (cur.setIfInBounds k v).toList = cur.toList.set k v := by simp
      rw [this, List.take_set, htake]
/-- an element of the row gets another cell -/
theorem RwO.put (hP : ElP sz P) (h : RwO e sz P w base S A n c l) {g i j : Nat} (hA : A = some ⟨g, 0, none⟩) (hi : i < n) (hj : j < sz) (u : Value) (y : α)
    (hy : ∀ (w2 : World) (v : Array Value) (x : α), l[i]? = some x → P w2 (fun b => S b ∧ b ≠ g) v x → P w2 (fun b => S b ∧ b ≠ g) (v.setIfInBounds j u) y) : RwO e sz P (w.setCell ⟨g, i * sz + j, none⟩ u) base S A n c (l.set i y) := by
  obtain ⟨xs, h1, h2, V, h3, h4⟩ := h
  have hgr : w.grownBy (w.setCell ⟨g, i * sz + j, none⟩ u) (some g) := only_setCell (World.grownBy.refl w _) (.inl rfl) u
  have e1 : (fun b => S b ∧ some b ≠ (Value.slice A n c).ownBlock) = fun b => S b ∧ b ≠ g := by
    funext b
    simp [hA, Value.ownBlock]
  have hxl := h1.1
  have hsz : ∀ i', i' < n → (V i').size = sz := fun i' hi' => by
    have hg : l[i']? = some (l[i']'(by omega)) := List.getElem?_eq_getElem (by omega)
    exact hP.size (h4 i' _ hg)
  rw [e1] at h4
  unfold RwO
  rw [e1]
  refine ⟨_, own_setZ h1 hA u, by rw [List.length_set]; exact h2, fun i' => if i' = i then (V i).setIfInBounds j u else V i', fun i' j' u' hi' hu' => ?_, fun i' x hx => ?_⟩
  · by_cases he : i' = i
    · subst he
      simp only [if_true] at hu'
      by_cases hjj : j = j'
      · subst hjj
        have hlt : j < (V i').size := by rw [hsz i' hi']; exact hj
        rw [Array.getElem?_setIfInBounds_self, if_pos hlt] at hu'
        have hb : i' * sz + j < xs.length := by
          have : (i' + 1) * sz ≤ n * sz := Nat.mul_le_mul_right sz (by omega)
          rw [Nat.succ_mul] at this
          omega
        rw [List.getElem?_set_self hb]
        exact hu'
      · rw [Array.getElem?_setIfInBounds_ne hjj] at hu'
        rw [List.getElem?_set_ne (by omega)]
        exact h3 i' j' u' hi' hu'
    · simp only [if_neg he] at hu'
      have hj' : j' < sz := by
        have := (Array.getElem?_eq_some_iff.1 hu').1
        rwa [hsz i' hi'] at this
      rw [List.getElem?_set_ne]
      · exact h3 i' j' u' hi' hu'
      · intro hh
        rcases Nat.lt_or_ge i' i with hlt | hge
        · have : (i' + 1) * sz ≤ i * sz := Nat.mul_le_mul_right sz (by omega)
          rw [Nat.succ_mul] at this
          omega
        · have : (i + 1) * sz ≤ i' * sz := Nat.mul_le_mul_right sz (by omega)
          rw [Nat.succ_mul] at this
          omega
  · by_cases he : i' = i
    · subst he
      simp only [if_true]
      rw [List.getElem?_set_self (by omega)] at hx
      injection hx with hx
      subst hx
      have hg : l[i']? = some (l[i']'(by omega)) := List.getElem?_eq_getElem (by omega)
      refine hy _ _ _ hg (hP.grown (h4 i' _ hg) hgr fun g' hg' hs => ?_)
      injection hg' with hg'
      exact hs.2 hg'.symm
    · simp only [if_neg he]
      rw [List.getElem?_set_ne (Ne.symm he)] at hx
      refine hP.grown (h4 i' x hx) hgr fun g' hg' hs => ?_
      injection hg' with hg'
      exact hs.2 hg'.symm
/-- append of what a slice reads as -/
theorem wp_appZ {T : TypeId} {z : Value} {bytes : Nat} (hP : ElP sz P) (hI : Info Try.prog T e z sz bytes) {o : Oper} {a : Act} {K : Act → World → Prop} {Q : Exit → Act → World → Prop} {s x : Operand}
    (ho : o.op = .call { callee := .builtin .append, args := #[s, x], argTypes := #[T, T] })
    {A0 : Option Addr} {c0 : Nat} {L : List α} (hs : a.eval s = .slice A0 n c0) (hown : RwO e sz P w base S A0 n c0 L)
    {m c : Nat} {l2 : List α} (hx : a.eval x = .slice A m c) (hr : RwR sz P w (fun b => S b ∧ some b ≠ (Value.slice A0 n c0).ownBlock) A m l2)
    (hn : n + m ≤ 4000000) (hby : bytes ≤ 1000000) (hbase : base ≤ w.heap.size)
    (h : ∀ A' c' w', RwO e sz P w' base S A' (n + m) c' (L ++ l2) → Below base w w' → w.grownBy w' (Value.slice A0 n c0).ownBlock → K (a.put o.dst (.slice A' (n + m) c')) w') : o.wp Try.prog a w K Q := by
  obtain ⟨xs, h1, h2, V, h3, h4⟩ := hown
  obtain ⟨V2, hR, hV4, hone, hq2⟩ := hr.reads hP
  have hl2 := hr.1
  have hbb : (n + m) * bytes ≤ 140737488355328 := Nat.le_trans (Nat.mul_le_mul hn hby) (by decide)
  refine wp_app w hI ho hs h1 hx hR hone (by unfold maxLen; omega) hbb hbase fun A' c' w' k1 k2 k3 => h A' c' w' ?_ ((Below.refl _ _).grown k2 hbase (fun k hk => (World.ownsRow.lt h1 k hk).1)) k2
  have hkeep : ∀ b, (S b ∧ some b ≠ (Value.slice A0 n c0).ownBlock) → b < w.heap.size → w'.heap[b]? = w.heap[b]? := fun b hb hlt => k2.block b hlt hb.2
  have hkeep2 : ∀ b, (S b ∧ some b ≠ (Value.slice A0 n c0).ownBlock) → b < w.heap.size → (S b ∧ some b ≠ (Value.slice A' (n + m) c').ownBlock) := fun b hb hlt => by
    refine ⟨hb.1, ?_⟩
    rcases k3 with e | e
    · rw [e]; exact hb.2
    · rw [e]; intro he; injection he with he; omega
  have hlen := h1.1
  refine ⟨_, k1, by rw [List.length_append]; omega, fun i => if i < n then V i else V2 (i - n), fun i j u hi hu => ?_, fun i q hi => ?_⟩
  · by_cases hin : i < n
    · simp only [if_pos hin] at hu
      have := h3 i j u hin hu
      rw [List.getElem?_append_left (List.getElem?_eq_some_iff.1 this).1]
      exact this
    · simp only [if_neg hin] at hu
      have hj : j < sz := by
        rcases Nat.lt_or_ge j sz with h | h
        · exact h
        · rw [Array.getElem?_eq_none (by rw [hV4 _ (by omega)]; exact h)] at hu; cases hu
      obtain ⟨d, rfl⟩ : ∃ d, i = n + d := ⟨i - n, by omega⟩
      rw [Nat.add_sub_cancel_left] at hu
      have hm : (n + d) * sz = n * sz + d * sz := Nat.add_mul _ _ _
      rw [List.getElem?_append_right (by omega), hlen, show (n + d) * sz + j - n * sz = d * sz + j by omega, rowZ_get V2 m hV4 _ _ (by omega) hj]
      exact hu
  · by_cases hin : i < n
    · rw [List.getElem?_append_left (by omega)] at hi
      simp only [if_pos hin]
      exact hP.keep hkeep k2.size hkeep2 (h4 i q hi)
    · rw [List.getElem?_append_right (by omega), h2] at hi
      simp only [if_neg hin]
      exact hP.keep hkeep k2.size hkeep2 (hq2 _ q hi)
theorem wpList_appZ {T : TypeId} {z : Value} {bytes : Nat} (hP : ElP sz P) (hI : Info Try.prog T e z sz bytes) {ops : Array Oper} {rest : List Oper} {o : Oper} {a : Act} {Q : Exit → Act → World → Prop} {s x : Operand} (hgd : o.guard = none)
    (ho : o.op = .call { callee := .builtin .append, args := #[s, x], argTypes := #[T, T] })
    {A0 : Option Addr} {c0 : Nat} {L : List α} (hs : a.eval s = .slice A0 n c0) (hown : RwO e sz P w base S A0 n c0 L)
    {m c : Nat} {l2 : List α} (hx : a.eval x = .slice A m c) (hr : RwR sz P w (fun b => S b ∧ some b ≠ (Value.slice A0 n c0).ownBlock) A m l2)
    (hn : n + m ≤ 4000000) (hby : bytes ≤ 1000000) (hbase : base ≤ w.heap.size)
    (h : ∀ A' c' w', RwO e sz P w' base S A' (n + m) c' (L ++ l2) → Below base w w' → w.grownBy w' (Value.slice A0 n c0).ownBlock → wpList Try.prog ops Q rest (a.put o.dst (.slice A' (n + m) c')) w') : wpList Try.prog ops Q (o :: rest) a w :=
  wpList_plain hgd fun _ hK => wp_appZ hP hI ho hs hown hx hr hn hby hbase fun A' c' w' h1 h2 h3 => hK _ _ (h A' c' w' h1 h2 h3)
/-- a slice that came in, whose elements open -/
theorem open_rows {H : Type} {enc : TypeId × Value → H} {W : World} {T : TypeId} [Inhabited α] (hT : Try.prog.underlying T = some (.slice e)) (hC : Try.prog.cellsOf e = sz) (hP : ElP sz P)
    (hel : ∀ (n : Nat) (cs : List Value) (y : DataW H × List MemPlace), DataW.trod enc Try.prog W 0 (fun _ => true) true n e cs = some y → ∃ x, P W (fun _ => True) cs.toArray x)
    {n : Nat} {v : Value} {y : DataW H × List MemPlace} (h : DataW.trod enc Try.prog W 0 (fun _ => true) true n T [v] = some y) :
    ∃ A k c l, v = .slice A k c ∧ k ≤ c ∧ c ≤ 9223372036854775807 ∧ RwA sz P W (fun _ => True) A k l := by
  rcases DataW.trod_slice hT h with ⟨e3, _⟩ | ⟨a, len, cap, elems, rest, n', hn', e3, _, _, hl, hm', hel2, hx, _, _⟩
  · injection e3 with e3
    exact ⟨none, 0, 0, [], e3, Nat.le_refl _, by omega, RwA.nil _⟩
  · injection e3 with e3
    unfold maxLen at hm'
    rw [hC] at hx
    have hsub : ∀ i, i < len → ∃ p : Array Value × α, p.1.size = sz ∧ (∀ j, j < sz → W.cell? ((a.add (i * sz)).add j) = p.1[j]?) ∧ P W (fun _ => True) p.1 p.2 := by
      intro i hi
      have hxi := hx i hi
      rw [List.getElem?_eq_getElem (by omega)] at hxi
      obtain ⟨cs', h1, h2⟩ := Option.bind_eq_some_iff.1 hxi
      obtain ⟨q, hq⟩ := hel n' cs' _ h2
      obtain ⟨_, hl4, hc⟩ := World.cells?_some h1
      exact ⟨⟨cs'.toArray, q⟩, hP.size hq, fun j hj => by rw [hc j hj]; simp, hq⟩
    haveI : Inhabited (Array Value × α) := ⟨⟨#[], default⟩⟩
    obtain ⟨f, hf⟩ := choose_lt hsub
    refine ⟨a, len, cap, (List.range len).map fun i => (f i).2, e3, hl, by omega, by simp, fun i => (f i).1, fun h0 => ?_, fun i q hq => ?_⟩
    · have hpos := hP.pos
      have h1 := (hf 0 h0).2.1 0 hpos
      have h2 : ∃ u, (f 0).1[0]? = some u := ⟨_, Array.getElem?_eq_getElem (by have := (hf 0 h0).1; omega)⟩
      obtain ⟨u, hu⟩ := h2
      rw [hu] at h1
      obtain ⟨b, off, spot⟩ := a
      have hsp : spot = none := by
        have := World.cell?_spot h1
        simpa [Addr.add] using this
      subst hsp
      have hb : b < W.heap.size := by
        have := World.block_lt_of_cell? W _ h1
        rwa [block_of_add, block_of_add] at this
      refine ⟨b, off, rfl, trivial, hb, fun i j u hi hu => ?_⟩
      have hu : (f i).1[j]? = some u := hu
      have hj : j < sz := by
        have := (hf i hi).1
        rcases Nat.lt_or_ge j sz with h | h
        · exact h
        · rw [Array.getElem?_eq_none (by omega)] at hu; cases hu
      have h3 := (hf i hi).2.1 j hj
      rw [hu, add_lit, add_lit] at h3
      exact h3
    · have hi : i < len := by
        rcases Nat.lt_or_ge i len with h | h
        · exact h
        · rw [List.getElem?_eq_none (by simpa using h)] at hq; cases hq
      simp only [List.getElem?_map, List.getElem?_range hi, Option.map_some] at hq
      injection hq with hq
      rw [← hq]
      exact (hf i hi).2.2
end
end Go.Proofs.Ytjmmgekildlckaa
