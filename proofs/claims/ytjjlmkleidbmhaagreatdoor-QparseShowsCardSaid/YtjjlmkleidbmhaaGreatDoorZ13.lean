/-
  Queries' texts and what they lean on, part 13: only what the claims need.
-/
import Derived.Lib.SmallJoins
import Derived.Deep.Slices
import Derived.Test.YtjjlmkleidbmhaaGreatDoorZ01
import Derived.Test.YtjjlmkleidbmhaaGreatDoorProg
import Derived.BigQuiet
import Derived.Test.YtjjlmkleidbmhaaGreatDoorZ11
import Derived.Test.YtjjlmkleidbmhaaGreatDoorZ06
section
namespace Go.Proofs.YtjjlmkleidbmhaaGreatDoor
open Go.ChangeShapes Go.WideShapes Go.ChangeAt Go.Deep
open Go.RowKit Go.Nst
set_option maxRecDepth 100000
set_option linter.unusedVariables false
set_option linter.unusedSimpArgs false

/-- what an element's cells read as: so many cells, each one value; it stays where its blocks stay -/
structure ElP {α : Type} (sz : Nat) (P : World → (Nat → Prop) → Array Value → α → Prop) : Prop where
  pos : 0 < sz
  size : ∀ {w S v x}, P w S v x → v.size = sz
  one : ∀ {w S v x}, P w S v x → ∀ u ∈ v.toList, u.oneCell' = true
  keep : ∀ {w w' : World} {S S' : Nat → Prop} {v x}, (∀ b, S b → b < w.heap.size → w'.heap[b]? = w.heap[b]?) → w.heap.size ≤ w'.heap.size → (∀ b, S b → b < w.heap.size → S' b) → P w S v x → P w' S' v x
/-- a slice reads as a list; all of it, and the row, lies in blocks of S -/
def RwA {α : Type} (sz : Nat) (P : World → (Nat → Prop) → Array Value → α → Prop) (w : World) (S : Nat → Prop) (A : Option Addr) (k : Nat) (l : List α) : Prop :=
  l.length = k ∧ ∃ V : Nat → Array Value, (0 < k → ∃ b off, A = some ⟨b, off, none⟩ ∧ S b ∧ b < w.heap.size ∧ ∀ (i j : Nat) (u : Value), i < k → (V i)[j]? = some u → w.cell? ⟨b, off + i * sz + j, none⟩ = some u) ∧ ∀ (i : Nat) (x : α), l[i]? = some x → P w S (V i) x
/-- .. wherever the row itself lies -/
def RwR {α : Type} (sz : Nat) (P : World → (Nat → Prop) → Array Value → α → Prop) (w : World) (S : Nat → Prop) (A : Option Addr) (k : Nat) (l : List α) : Prop :=
  l.length = k ∧ ∃ V : Nat → Array Value, (0 < k → ∃ b off, A = some ⟨b, off, none⟩ ∧ b < w.heap.size ∧ ∀ (i j : Nat) (u : Value), i < k → (V i)[j]? = some u → w.cell? ⟨b, off + i * sz + j, none⟩ = some u) ∧ ∀ (i : Nat) (x : α), l[i]? = some x → P w S (V i) x
/-- a row of the call's own; what stands within lies in blocks of S, not in the row's -/
def RwO {α : Type} (e : TypeId) (sz : Nat) (P : World → (Nat → Prop) → Array Value → α → Prop) (w : World) (base : Nat) (S : Nat → Prop) (A : Option Addr) (n c : Nat) (l : List α) : Prop :=
  ∃ xs : List Value, w.ownsRow base e sz (.slice A n c) n xs ∧ l.length = n ∧ ∃ V : Nat → Array Value, (∀ (i j : Nat) (u : Value), i < n → (V i)[j]? = some u → xs[i * sz + j]? = some u) ∧ ∀ (i : Nat) (x : α), l[i]? = some x → P w (fun b => S b ∧ some b ≠ (Value.slice A n c).ownBlock) (V i) x
/-- arrays of so many cells, one behind the other -/
def rowZ (V : Nat → Array Value) (m : Nat) : List Value := (List.range m).flatMap fun i => (V i).toList
theorem rowZ_succ (V : Nat → Array Value) (m : Nat) : rowZ V (m + 1) = rowZ V m ++ (V m).toList := by simp [rowZ, List.range_succ]
theorem rowZ_len {sz : Nat} (V : Nat → Array Value) : ∀ m, (∀ i, i < m → (V i).size = sz) → (rowZ V m).length = m * sz
  | 0, _ => by simp [rowZ]
  | m + 1, h => by
    rw [rowZ_succ, List.length_append, rowZ_len V m fun i hi => h i (by omega), Array.length_toList, h m (by omega), Nat.succ_mul]
theorem rowZ_get {sz : Nat} (V : Nat → Array Value) : ∀ m, (∀ i, i < m → (V i).size = sz) → ∀ i j, i < m → j < sz → (rowZ V m)[i * sz + j]? = (V i)[j]?
  | 0, _, i, j, hi, _ => absurd hi (by omega)
  | m + 1, h, i, j, hi, hj => by
    have hl := rowZ_len V m fun i hi => h i (by omega)
    rw [rowZ_succ]
    by_cases he : i = m
    · subst he
      rw [List.getElem?_append_right (by omega), hl]
      simp
    · have : (i + 1) * sz ≤ m * sz := Nat.mul_le_mul_right sz (by omega)
      rw [Nat.succ_mul] at this
      rw [List.getElem?_append_left (by omega)]
      exact rowZ_get V m (fun i hi => h i (by omega)) i j (by omega) hj

section
variable {α : Type} {sz : Nat} {P : World → (Nat → Prop) → Array Value → α → Prop} {w w' : World} {S S' : Nat → Prop} {A : Option Addr} {k n c base : Nat} {l : List α} {e : TypeId}
theorem RwA.nil (A : Option Addr) : RwA sz P w S A 0 [] := ⟨rfl, fun _ => #[], fun h => absurd h (by omega), by simp⟩
theorem RwR.nil (A : Option Addr) : RwR sz P w S A 0 [] := ⟨rfl, fun _ => #[], fun h => absurd h (by omega), by simp⟩
theorem RwA.len (h : RwA sz P w S A k l) : l.length = k := h.1
theorem RwR.len (h : RwR sz P w S A k l) : l.length = k := h.1
theorem RwA.keep (hP : ElP sz P) (hS : ∀ b, S b → b < w.heap.size → w'.heap[b]? = w.heap[b]?) (hz : w.heap.size ≤ w'.heap.size) (hSS : ∀ b, S b → b < w.heap.size → S' b) (h : RwA sz P w S A k l) : RwA sz P w' S' A k l := by
  obtain ⟨hk, V, hA, hq⟩ := h
  refine ⟨hk, V, fun h0 => ?_, fun i q hi => hP.keep hS hz hSS (hq i q hi)⟩
  obtain ⟨b, off, e, hb, hlt, hcell⟩ := hA h0
  refine ⟨b, off, e, hSS b hb hlt, by omega, fun i j u hi hu => ?_⟩
  rw [World.cell?_of_block (hS b hb hlt)]
  exact hcell i j u hi hu
theorem RwA.bel (hP : ElP sz P) (h : RwA sz P w S A k l) (hb : Below w.heap.size w w') : RwA sz P w' S A k l := h.keep hP (fun b _ hlt => hb.block b hlt) hb.size (fun _ h _ => h)
theorem RwA.wide (hP : ElP sz P) (h : RwA sz P w S A k l) (hSS : ∀ b, S b → b < w.heap.size → S' b) : RwA sz P w S' A k l := h.keep hP (fun _ _ _ => rfl) (Nat.le_refl _) hSS
theorem RwA.grown (hP : ElP sz P) (h : RwA sz P w S A k l) {row : Option Nat} (hg : w.grownBy w' row) (hS : ∀ g, row = some g → ¬ S g) : RwA sz P w' S A k l :=
  h.keep hP (fun b hb hlt => hg.block b hlt (fun e => hS b e.symm hb)) hg.size (fun _ h _ => h)
theorem ElP.bel (hP : ElP sz P) {v : Array Value} {x : α} (h : P w S v x) (hb : Below w.heap.size w w') : P w' S v x := hP.keep (fun b _ hlt => hb.block b hlt) hb.size (fun _ h _ => h) h
theorem ElP.wide (hP : ElP sz P) {v : Array Value} {x : α} (h : P w S v x) (hSS : ∀ b, S b → b < w.heap.size → S' b) : P w S' v x := hP.keep (fun _ _ _ => rfl) (Nat.le_refl _) hSS h
theorem ElP.grown (hP : ElP sz P) {v : Array Value} {x : α} (h : P w S v x) {row : Option Nat} (hg : w.grownBy w' row) (hS : ∀ g, row = some g → ¬ S g) : P w' S v x :=
  hP.keep (fun b hb hlt => hg.block b hlt (fun e => hS b e.symm hb)) hg.size (fun _ h _ => h) h
/-- the i-th one: its cells -/
theorem RwA.get (h : RwA sz P w S A k l) {i : Nat} (hi : i < k) : ∃ (x : α) (v : Array Value) (b off : Nat), l[i]? = some x ∧ A = some ⟨b, off, none⟩ ∧ S b ∧ b < w.heap.size ∧ P w S v x ∧ ∀ (j : Nat) (u : Value), v[j]? = some u → w.cell? ⟨b, off + i * sz + j, none⟩ = some u := by
  obtain ⟨hk, V, hA, hq⟩ := h
  obtain ⟨b, off, e, hS, hb, hc⟩ := hA (by omega)
  have hg : l[i]? = some (l[i]'(by omega)) := List.getElem?_eq_getElem (by omega)
  exact ⟨_, V i, b, off, hg, e, hS, hb, hq i _ hg, fun j u hu => hc i j u hi hu⟩
theorem RwA.r (hP : ElP sz P) (h : RwA sz P w S A k l) (hS : ∀ b, S b → b < w.heap.size → S' b) : RwR sz P w S' A k l := by
  obtain ⟨hk, V, hA, hq⟩ := h
  exact ⟨hk, V, fun h0 => let ⟨b, off, e, _, hb, hc⟩ := hA h0; ⟨b, off, e, hb, hc⟩, fun i q hi => hP.wide (hq i q hi) hS⟩
theorem RwR.at_ (h : RwR sz P w S A n l) (hS : ∀ b off, A = some ⟨b, off, none⟩ → S b) : RwA sz P w S A n l := by
  obtain ⟨hk, V, hA, hq⟩ := h
  exact ⟨hk, V, fun h0 => let ⟨b, off, e, hb, hc⟩ := hA h0; ⟨b, off, e, hS b off e, hb, hc⟩, hq⟩
theorem RwR.reads (hP : ElP sz P) (h : RwR sz P w S A k l) : ∃ V : Nat → Array Value, Reads w w.heap.size sz A k (rowZ V k) ∧ (∀ i, i < k → (V i).size = sz) ∧ (∀ u ∈ rowZ V k, u.oneCell' = true) ∧ ∀ (i : Nat) (x : α), l[i]? = some x → P w S (V i) x := by
  obtain ⟨hk, V, hA, hq⟩ := h
  have hget : ∀ i, i < k → ∃ x, P w S (V i) x := fun i hi => by
    have hg : l[i]? = some (l[i]'(by omega)) := List.getElem?_eq_getElem (by omega)
    exact ⟨_, hq i _ hg⟩
  have h4 : ∀ i, i < k → (V i).size = sz := fun i hi => let ⟨x, hx⟩ := hget i hi; hP.size hx
  have hpos := hP.pos
  refine ⟨V, ⟨rowZ_len V k h4, fun h0 => ?_⟩, h4, fun u hu => ?_, hq⟩
  · obtain ⟨b, off, e, hb, hc⟩ := hA h0
    refine ⟨_, e, hb, fun j u hu => ?_⟩
    have hj : j < k * sz := by
      have := (List.getElem?_eq_some_iff.1 hu).1
      rwa [rowZ_len V k h4] at this
    have hd : j / sz < k := by rw [Nat.div_lt_iff_lt_mul hpos]; exact hj
    have hm : j % sz < sz := Nat.mod_lt _ hpos
    have hjj : j = j / sz * sz + j % sz := by have := Nat.div_add_mod j sz; rw [Nat.mul_comm] at this; omega
    rw [hjj] at hu ⊢
    rw [rowZ_get V k h4 _ _ hd hm] at hu
    rw [add_lit, ← Nat.add_assoc]
    exact hc _ _ u hd hu
  · obtain ⟨i, hi, hui⟩ := List.mem_flatMap.1 hu
    obtain ⟨x, hx⟩ := hget i (by simpa using hi)
    exact hP.one hx u hui
/-- a literal of one element -/
theorem RwR.lit (hP : ElP sz P) {vs : Array Value} {x : α} (h : P w S vs x) : RwR sz P (w.alloc (.cells vs e)) S (some ⟨w.heap.size, 0, none⟩) 1 [x] := by
  refine ⟨rfl, fun _ => vs, fun _ => ⟨_, _, rfl, by simp, fun i j u hi hu => ?_⟩, fun i y hi => ?_⟩
  · have : i = 0 := by omega
    subst this
    rw [Nat.zero_mul, Nat.add_zero, Nat.zero_add, (Blk.new w e vs).cell]
    exact hu
  · have : i = 0 := by
      rcases Nat.lt_or_ge i 1 with h | h
      · omega
      · rw [List.getElem?_eq_none (by simpa using h)] at hi; cases hi
    subst this
    simp only [List.getElem?_cons_zero, Option.some.injEq] at hi
    subst hi
    exact hP.bel h (bel_alloc (Below.refl _ _) _)
theorem RwO.nil : RwO e sz P w base S none 0 0 [] := ⟨[], World.ownsRow_nil _ _ _ _, rfl, fun _ => #[], by intro i j u h; omega, by simp⟩
theorem RwO.len (h : RwO e sz P w base S A n c l) : l.length = n := by obtain ⟨_, _, h, _⟩ := h; exact h
theorem RwO.cap (h : RwO e sz P w base S A n c l) : n ≤ c ∧ c ≤ 9223372036854775807 := by obtain ⟨_, h, _⟩ := h; exact own_cap h
theorem RwO.lt (h : RwO e sz P w base S A n c l) : ∀ g, (Value.slice A n c).ownBlock = some g → base ≤ g ∧ g < w.heap.size := by obtain ⟨_, h, _⟩ := h; exact World.ownsRow.lt h
theorem RwO.bel (hP : ElP sz P) (h : RwO e sz P w base S A n c l) (hb : Below w.heap.size w w') : RwO e sz P w' base S A n c l := by
  obtain ⟨xs, h1, h2, V, h3, h4⟩ := h
  exact ⟨xs, own_below h1 hb, h2, V, h3, fun i q hi => hP.bel (h4 i q hi) hb⟩
theorem RwO.mono {base' : Nat} (h : RwO e sz P w base S A n c l) (hb : base' ≤ base) : RwO e sz P w base' S A n c l := by
  obtain ⟨xs, h1, h2, V, h3, h4⟩ := h
  exact ⟨xs, own_mono h1 hb, h2, V, h3, h4⟩
theorem RwO.wide (hP : ElP sz P) (h : RwO e sz P w base S A n c l) (hS : ∀ b, S b → b < w.heap.size → S' b) : RwO e sz P w base S' A n c l := by
  obtain ⟨xs, h1, h2, V, h3, h4⟩ := h
  exact ⟨xs, h1, h2, V, h3, fun i q hi => hP.wide (h4 i q hi) fun b hb hlt => ⟨hS b hb.1 hlt, hb.2⟩⟩
theorem RwO.grown (hP : ElP sz P) (h : RwO e sz P w base S A n c l) {row : Option Nat} (hg : w.grownBy w' row) (hrow : ∀ g, row = some g → ¬ S g ∧ (Value.slice A n c).ownBlock ≠ some g) : RwO e sz P w' base S A n c l := by
  obtain ⟨xs, h1, h2, V, h3, h4⟩ := h
  refine ⟨xs, own_only h1 hg (fun g hg' e2 => ?_), h2, V, h3, fun i q hi => hP.grown (h4 i q hi) hg fun g hg' hs => (hrow g hg').1 hs.1⟩
  exact (hrow g e2.symm).2 hg'
/-- it reads as a list -/
theorem RwO.qs (hP : ElP sz P) (h : RwO e sz P w base S A n c l) (hS : ∀ b, S b → b < w.heap.size → S' b) (hB : ∀ b, base ≤ b → b < w.heap.size → S' b) : RwA sz P w S' A n l := by
  obtain ⟨xs, h1, h2, V, h3, h4⟩ := h
  refine ⟨h2, V, fun h0 => ?_, fun i q hi => hP.wide (h4 i q hi) fun b hb hlt => hS b hb.1 hlt⟩
  obtain ⟨g, rfl, hg1, hg2, _⟩ := own_where h1 h0
  refine ⟨g, 0, rfl, hB g hg1 hg2, hg2, fun i j u hi hu => ?_⟩
  have := World.ownsRow.cells (g := g) h1 rfl _ u (h3 i j u hi hu)
  rw [add_lit] at this
  rw [Nat.zero_add] at this
  rw [Nat.zero_add]
  exact this
/-- the i-th one: its cells, and where the row lies -/
theorem RwO.get (h : RwO e sz P w base S A n c l) {i : Nat} (hi : i < n) : ∃ (x : α) (v : Array Value) (g : Nat), l[i]? = some x ∧ A = some ⟨g, 0, none⟩ ∧ base ≤ g ∧ g < w.heap.size ∧ (∀ j, w.frozen? ⟨g, j, none⟩ = false) ∧ P w (fun b => S b ∧ b ≠ g) v x ∧ ∀ (j : Nat) (u : Value), v[j]? = some u → w.cell? ⟨g, i * sz + j, none⟩ = some u := by
  obtain ⟨xs, h1, h2, V, h3, h4⟩ := h
  obtain ⟨g, rfl, hg1, hg2, hf⟩ := own_where h1 (by omega)
  have hg : l[i]? = some (l[i]'(by omega)) := List.getElem?_eq_getElem (by omega)
  have e1 : (fun b => S b ∧ some b ≠ (Value.slice (some ⟨g, 0, none⟩) n c).ownBlock) = fun b => S b ∧ b ≠ g := by
    funext b
    simp [Value.ownBlock]
  have h5 := h4 i _ hg
  rw [e1] at h5
  refine ⟨_, V i, g, hg, rfl, hg1, hg2, hf, h5, fun j u hu => ?_⟩
  have := World.ownsRow.cells (g := g) h1 rfl _ u (h3 i j u hi hu)
  rw [add_lit, Nat.zero_add] at this
  exact this
/-- a cell of a row of the call's own is written anew -/
theorem own_setZ {s : Nat} {xs : List Value} (h : w.ownsRow base e s (.slice A n c) n xs) {g k : Nat} (hA : A = some ⟨g, 0, none⟩) (v : Value) : (w.setCell ⟨g, k, none⟩ v).ownsRow base e s (.slice A n c) n (xs.set k v) := by
  subst hA
  refine ⟨by rw [List.length_set]; exact h.1, ?_⟩
  rcases h.2 with ⟨e, rfl⟩ | ⟨g', cap, cur, hv, hg, hh, hnc, hcm, hcs, htake⟩
  · cases e
  · injection hv with hv1 hv2 hv3
    injection hv1 with hv1
    injection hv1 with hv1
    subst hv1
    subst hv3
    refine .inr ⟨g, c, cur.setIfInBounds k v, rfl, hg, ?_, hnc, hcm, by simpa using hcs, ?_⟩
    · simp [World.setCell, Array.getElem?_modify, hh]
    · have : (cur.setIfInBounds k v).toList = cur.toList.set k v := by simp
      rw [this, List.take_set, htake]
/-- an element of the row gets another cell -/
theorem RwO.put (hP : ElP sz P) (h : RwO e sz P w base S A n c l) {g i j : Nat} (hA : A = some ⟨g, 0, none⟩) (hi : i < n) (hj : j < sz) (u : Value) (y : α)
    (hy : ∀ (w2 : World) (v : Array Value) (x : α), l[i]? = some x → P w2 (fun b => S b ∧ b ≠ g) v x → P w2 (fun b => S b ∧ b ≠ g) (v.setIfInBounds j u) y) : RwO e sz P (w.setCell ⟨g, i * sz + j, none⟩ u) base S A n c (l.set i y) := by
  obtain ⟨xs, h1, h2, V, h3, h4⟩ := h
  have hgr : w.grownBy (w.setCell ⟨g, i * sz + j, none⟩ u) (some g) := only_setCell (World.grownBy.refl w _) (.inl rfl) u
  have e1 : (fun b => S b ∧ some b ≠ (Value.slice A n c).ownBlock) = fun b => S b ∧ b ≠ g := by
    funext b
    simp [hA, Value.ownBlock]
  have hxl := h1.1
  have hsz : ∀ i', i' < n → (V i').size = sz := fun i' hi' => by
    have hg : l[i']? = some (l[i']'(by omega)) := List.getElem?_eq_getElem (by omega)
    exact hP.size (h4 i' _ hg)
  rw [e1] at h4
  unfold RwO
  rw [e1]
  refine ⟨_, own_setZ h1 hA u, by rw [List.length_set]; exact h2, fun i' => if i' = i then (V i).setIfInBounds j u else V i', fun i' j' u' hi' hu' => ?_, fun i' x hx => ?_⟩
  · by_cases he : i' = i
    · subst he
      simp only [if_true] at hu'
      by_cases hjj : j = j'
      · subst hjj
        have hlt : j < (V i').size := by rw [hsz i' hi']; exact hj
        rw [Array.getElem?_setIfInBounds_self, if_pos hlt] at hu'
        have hb : i' * sz + j < xs.length := by
          have : (i' + 1) * sz ≤ n * sz := Nat.mul_le_mul_right sz (by omega)
          rw [Nat.succ_mul] at this
          omega
        rw [List.getElem?_set_self hb]
        exact hu'
      · rw [Array.getElem?_setIfInBounds_ne hjj] at hu'
        rw [List.getElem?_set_ne (by omega)]
        exact h3 i' j' u' hi' hu'
    · simp only [if_neg he] at hu'
      have hj' : j' < sz := by
        have := (Array.getElem?_eq_some_iff.1 hu').1
        rwa [hsz i' hi'] at this
      rw [List.getElem?_set_ne]
      · exact h3 i' j' u' hi' hu'
      · intro hh
        rcases Nat.lt_or_ge i' i with hlt | hge
        · have : (i' + 1) * sz ≤ i * sz := Nat.mul_le_mul_right sz (by omega)
          rw [Nat.succ_mul] at this
          omega
        · have : (i + 1) * sz ≤ i' * sz := Nat.mul_le_mul_right sz (by omega)
          rw [Nat.succ_mul] at this
          omega
  · by_cases he : i' = i
    · subst he
      simp only [if_true]
      rw [List.getElem?_set_self (by omega)] at hx
      injection hx with hx
      subst hx
      have hg : l[i']? = some (l[i']'(by omega)) := List.getElem?_eq_getElem (by omega)
      refine hy _ _ _ hg (hP.grown (h4 i' _ hg) hgr fun g' hg' hs => ?_)
      injection hg' with hg'
      exact hs.2 hg'.symm
    · simp only [if_neg he]
      rw [List.getElem?_set_ne (Ne.symm he)] at hx
      refine hP.grown (h4 i' x hx) hgr fun g' hg' hs => ?_
      injection hg' with hg'
      exact hs.2 hg'.symm
/-- append of what a slice reads as -/
theorem wp_appZ {T : TypeId} {z : Value} {bytes : Nat} (hP : ElP sz P) (hI : Info Tryz.prog T e z sz bytes) {o : Oper} {a : Act} {K : Act → World → Prop} {Q : Exit → Act → World → Prop} {s x : Operand}
    (ho : o.op = .call { callee := .builtin .append, args := #[s, x], argTypes := #[T, T] })
    {A0 : Option Addr} {c0 : Nat} {L : List α} (hs : a.eval s = .slice A0 n c0) (hown : RwO e sz P w base S A0 n c0 L)
    {m c : Nat} {l2 : List α} (hx : a.eval x = .slice A m c) (hr : RwR sz P w (fun b => S b ∧ some b ≠ (Value.slice A0 n c0).ownBlock) A m l2)
    (hn : n + m ≤ 4000000) (hby : bytes ≤ 1000000) (hbase : base ≤ w.heap.size)
    (h : ∀ A' c' w', RwO e sz P w' base S A' (n + m) c' (L ++ l2) → Below base w w' → w.grownBy w' (Value.slice A0 n c0).ownBlock → K (a.put o.dst (.slice A' (n + m) c')) w') : o.wp Tryz.prog a w K Q := by
  obtain ⟨xs, h1, h2, V, h3, h4⟩ := hown
  obtain ⟨V2, hR, hV4, hone, hq2⟩ := hr.reads hP
  have hl2 := hr.1
  have hbb : (n + m) * bytes ≤ 140737488355328 := Nat.le_trans (Nat.mul_le_mul hn hby) (by decide)
  refine wp_app w hI ho hs h1 hx hR hone (by unfold maxLen; omega) hbb hbase fun A' c' w' k1 k2 k3 => h A' c' w' ?_ ((Below.refl _ _).grown k2 hbase (fun k hk => (World.ownsRow.lt h1 k hk).1)) k2
  have hkeep : ∀ b, (S b ∧ some b ≠ (Value.slice A0 n c0).ownBlock) → b < w.heap.size → w'.heap[b]? = w.heap[b]? := fun b hb hlt => k2.block b hlt hb.2
  have hkeep2 : ∀ b, (S b ∧ some b ≠ (Value.slice A0 n c0).ownBlock) → b < w.heap.size → (S b ∧ some b ≠ (Value.slice A' (n + m) c').ownBlock) := fun b hb hlt => by
    refine ⟨hb.1, ?_⟩
    rcases k3 with e | e
    · rw [e]; exact hb.2
    · rw [e]; intro he; injection he with he; omega
  have hlen := h1.1
  refine ⟨_, k1, by rw [List.length_append]; omega, fun i => if i < n then V i else V2 (i - n), fun i j u hi hu => ?_, fun i q hi => ?_⟩
  · by_cases hin : i < n
    · simp only [if_pos hin] at hu
      have := h3 i j u hin hu
      rw [List.getElem?_append_left (List.getElem?_eq_some_iff.1 this).1]
      exact this
    · simp only [if_neg hin] at hu
      have hj : j < sz := by
        rcases Nat.lt_or_ge j sz with h | h
        · exact h
        · rw [Array.getElem?_eq_none (by rw [hV4 _ (by omega)]; exact h)] at hu; cases hu
      obtain ⟨d, rfl⟩ : ∃ d, i = n + d := ⟨i - n, by omega⟩
      rw [Nat.add_sub_cancel_left] at hu
      have hm : (n + d) * sz = n * sz + d * sz := Nat.add_mul _ _ _
      rw [List.getElem?_append_right (by omega), hlen, show (n + d) * sz + j - n * sz = d * sz + j by omega, rowZ_get V2 m hV4 _ _ (by omega) hj]
      exact hu
  · by_cases hin : i < n
    · rw [List.getElem?_append_left (by omega)] at hi
      simp only [if_pos hin]
      exact hP.keep hkeep k2.size hkeep2 (h4 i q hi)
    · rw [List.getElem?_append_right (by omega), h2] at hi
      simp only [if_neg hin]
      exact hP.keep hkeep k2.size hkeep2 (hq2 _ q hi)
theorem wpList_appZ {T : TypeId} {z : Value} {bytes : Nat} (hP : ElP sz P) (hI : Info Tryz.prog T e z sz bytes) {ops : Array Oper} {rest : List Oper} {o : Oper} {a : Act} {Q : Exit → Act → World → Prop} {s x : Operand} (hgd : o.guard = none)
    (ho : o.op = .call { callee := .builtin .append, args := #[s, x], argTypes := #[T, T] })
    {A0 : Option Addr} {c0 : Nat} {L : List α} (hs : a.eval s = .slice A0 n c0) (hown : RwO e sz P w base S A0 n c0 L)
    {m c : Nat} {l2 : List α} (hx : a.eval x = .slice A m c) (hr : RwR sz P w (fun b => S b ∧ some b ≠ (Value.slice A0 n c0).ownBlock) A m l2)
    (hn : n + m ≤ 4000000) (hby : bytes ≤ 1000000) (hbase : base ≤ w.heap.size)
    (h : ∀ A' c' w', RwO e sz P w' base S A' (n + m) c' (L ++ l2) → Below base w w' → w.grownBy w' (Value.slice A0 n c0).ownBlock → wpList Tryz.prog ops Q rest (a.put o.dst (.slice A' (n + m) c')) w') : wpList Tryz.prog ops Q (o :: rest) a w :=
  wpList_plain hgd fun _ hK => wp_appZ hP hI ho hs hown hx hr hn hby hbase fun A' c' w' h1 h2 h3 => hK _ _ (h A' c' w' h1 h2 h3)
end
end Go.Proofs.YtjjlmkleidbmhaaGreatDoor
end
section
section
namespace Go.Nst
open Go.RowKit
section
variable {P : Program} {ops : Array Oper} {Q : Exit → Act → World → Prop} {md : Region.Mode}
end
end Go.Nst
end
section
namespace Go.Nst
open Go.RowKit
set_option linter.unusedVariables false

section
variable {P : Program} {ops : Array Oper} {Q : Exit → Act → World → Prop} {md : Region.Mode} {S : World → Prop}

/-- in every world that meets S, o leaves v behind and nothing else: it reads, or it calls what leaves the world alone -/
def TakesIf (P : Program) (ops : Array Oper) (S : World → Prop) (o : Oper) (v : Value) (a : Act) : Prop :=
  (Region.wanted o (yielded ops a.tmps) = true ∧ ((∀ w, S w → (execOp a.eval o).run P w = .ok (.value v) w) ∨
    ∃ f args, ∀ w, S w → (execOp a.eval o).run P w = .ok (.enter f args) w ∧ Calls P f args w fun e w' => e = .returned v ∧ w = w')) ∨
  (Region.wanted o (yielded ops a.tmps) = false ∧ v = undef)
theorem TakesIf.now {i : Nat} {o : Oper} {v : Value} {a : Act} (hi : ops[i]? = some o) (hy : TakesIf P ops S o v a)
    {K : Act → World → Prop} {w : World} (hS : S w) (h : K (a.put o.dst v) w) : wpOp P ops Q i K a w := by
  unfold Go.wpOp
  simp only [hi]
  rcases hy with ⟨hw, hv | ⟨f, args, hv⟩⟩ | ⟨hw, rfl⟩
  · simp only [hw, if_true, Oper.wp, hv w hS, Oper.upon]
    exact .inl h
  · simp only [hw, if_true, Oper.wp, (hv w hS).1, Oper.upon]
    refine .inl ((hv w hS).2.mono ?_)
    rintro e w' ⟨rfl, rfl⟩
    exact h
  · simp only [hw, Bool.false_eq_true, if_false]
    exact h
theorem TakesIf.same {o : Oper} {v : Value} {a a' : Act} (hy : TakesIf P ops S o v a) (he : execOp a'.eval o = execOp a.eval o)
    (hw : Region.wanted o (yielded ops a'.tmps) = Region.wanted o (yielded ops a.tmps)) : TakesIf P ops S o v a' := by
  unfold TakesIf at *
  rw [he, hw]
  exact hy
theorem takes_past {j : Nat} {oi oj : Oper} {v : Value} (hj : ops[j]? = some oj) (hap : oi.apart ops oj = true)
    (hsi : ∀ cs b, oi.op ≠ .select cs b) (hsj : ∀ cs b, oj.op ≠ .select cs b)
    (hQ : ∀ c a w, Q (.panic c) (a.put oi.dst v) w → Q (.panic c) a w) {K : Act → World → Prop} {a : Act} {w : World}
    (hy : TakesIf P ops S oi v a) (h : wpOp P ops Q j K (a.put oi.dst v) w) :
    wpOp P ops Q j (fun a' w' => TakesIf P ops S oi v a' ∧ K (a'.put oi.dst v) w') a w := by
  obtain ⟨h1, h2, h3⟩ := Oper.apart_spec hap
  have put_ : ∀ u, TakesIf P ops S oi v (a.put oj.dst u) := fun u => hy.same (execOp_put oi hsi a oj.dst u h3) (wanted_put oi a oj.dst u h3)
  unfold wpOp at *
  simp only [hj] at *
  rw [wanted_put oj a oi.dst v h1] at h
  cases hw : Region.wanted oj (yielded ops a.tmps) with
  | false =>
    simp only [hw] at h ⊢
    exact ⟨put_ _, by rw [← Act.put_comm a v undef h2]; exact h⟩
  | true =>
    simp only [hw, if_true] at h ⊢
    rcases h with h | ⟨ha, hl⟩
    · left
      unfold Oper.wp at *
      rw [execOp_put oj hsj a oi.dst v h1] at h
      cases hr : (execOp a.eval oj).run P w with
      | ok n w' =>
        rw [hr] at h
        cases n <;> simp only [Oper.upon] at h ⊢
        case value u => exact ⟨put_ u, by rw [← Act.put_comm a v u h2]; exact h⟩
        case skip => exact ⟨put_ _, by rw [← Act.put_comm a v undef h2]; exact h⟩
        case defer d =>
          have hd : TakesIf P ops S oi v { a with defers := d :: a.defers } := hy.same rfl rfl
          refine ⟨hd.same (execOp_put oi hsi _ oj.dst undef h3) (wanted_put oi _ oj.dst undef h3), ?_⟩
          rw [← Act.put_comm _ v undef h2, ← Act.put_defers]
          exact h
        case enter f args =>
          refine Calls.mono h fun e w2 he => ?_
          cases e with
          | returned u => exact ⟨put_ u, by rw [← Act.put_comm a v u h2]; exact he⟩
          | panicked c => exact hQ _ _ _ he
          | outgrown => exact he
        case row row args => exact Rows.mono h fun u w2 he => ⟨put_ u, by rw [← Act.put_comm a v u h2]; exact he⟩
      | halt x w' =>
        rw [hr] at h
        cases x <;> simp only [Oper.upon] at h ⊢
        case panic u => exact hQ _ _ _ h
    · right
      exact ⟨by unfold Oper.asks at *; rw [execOp_put oj hsj a oi.dst v h1] at ha; exact ha, hl⟩
theorem takes_first {i : Nat} {oi : Oper} {v : Value} (hi : ops[i]? = some oi) (hsel : ∀ (j : Nat) (o : Oper) cs b, ops[j]? = some o → o.op ≠ .select cs b)
    (hQ : ∀ c a w, Q (.panic c) (a.put oi.dst v) w → Q (.panic c) a w) : ∀ (fuel : Nat) (listed : Array Bool) (a : Act) (w : World),
      (∀ j oj, ops[j]? = some oj → j ≠ i → listed.getD j true = false → (∀ e ∈ oj.after, Region.binds md e = true → e.on ≠ i) → oi.apart ops oj = true) →
      i ∈ Region.ready md ops listed → TakesIf P ops S oi v a → S w →
      wpAnyH P md ops Q S fuel (listed.setIfInBounds i true) (a.put oi.dst v) w → wpAnyH P md ops Q S (fuel + 1) listed a w := by
  intro fuel
  induction fuel with
  | zero =>
    intro listed a w _ hr hy hS H
    constructor
    · intro h0
      rw [h0] at hr
      cases hr
    · intro j hj
      by_cases e : j = i
      · subst e
        exact hy.now hi hS ⟨hS, H⟩
      · have hm := ready_mono hj e
        rw [H.1] at hm
        cases hm
  | succ fuel ih =>
    intro listed a w hfree hr hy hS H
    constructor
    · intro h0
      rw [h0] at hr
      cases hr
    · intro j hj
      by_cases e : j = i
      · subst e
        exact hy.now hi hS ⟨hS, H⟩
      · have h1 := H.2 j (ready_mono hj e)
        obtain ⟨hjun, oj, hoj, hall⟩ := mem_ready.1 hj
        have hun := (mem_ready.1 hr).1
        have hnot : ∀ e ∈ oj.after, Region.binds md e = true → e.on ≠ i := by
          intro x hx hb hq
          have h2 := hall x hx hb
          rw [hq] at h2
          rcases Nat.lt_or_ge i listed.size with h' | h'
          · simp [h'] at hun h2
            rw [hun] at h2
            cases h2
          · simp [Array.getElem?_eq_none h'] at h2
        have h2 := takes_past hoj (hfree j oj hoj e hjun hnot) (fun cs b => hsel i oi cs b hi) (fun cs b => hsel j oj cs b hoj) hQ hy h1
        refine wpOp_mono (fun a' w' h3 => ⟨h3.2.1, ih (listed.setIfInBounds j true) a' w' ?_ (ready_mono hr (Ne.symm e)) h3.1 h3.2.1 ?_⟩) h2
        · intro k ok hk hki hlu hno
          refine hfree k ok hk hki ?_ hno
          by_cases hjk : j = k
          · subst hjk
            exact hjun
          · rw [getD_set_ne true hjk] at hlu
            exact hlu
        · rw [Array.setIfInBounds_comm _ _ e]
          exact h3.2.2
theorem takes_now {i : Nat} {oi : Oper} {v : Value} {fuel : Nat} {listed : Array Bool} {a : Act} {w : World} (hi : ops[i]? = some oi)
    (hs : Region.noSelect ops = true) (hf : Region.free md ops listed i = true) (hr : (Region.ready md ops listed).contains i = true)
    (hQ : ∀ c a w, Q (.panic c) (a.put oi.dst v) w → Q (.panic c) a w) (hy : TakesIf P ops S oi v a) (hS : S w)
    (h : wpAnyH P md ops Q S fuel (listed.setIfInBounds i true) (a.put oi.dst v) w) : wpAnyH P md ops Q S (fuel + 1) listed a w :=
  takes_first hi (Region.noSelect_spec hs) hQ fuel listed a w (Region.free_spec hi hf) (by simpa using hr) hy hS h

/-- the operations in the order of σ; (i, true): operation i reads, or calls what leaves the world alone -/
def wpSeqT (R : World → World → Prop) (P : Program) (ops : Array Oper) (Q : Exit → Act → World → Prop) : List (Nat × Bool) → Act → World → Prop
  | [], a, w => Q .normal a w
  | (i, true) :: σ, a, w => ∃ o v, ops[i]? = some o ∧ TakesIf P ops (fun W => R w W) o v a ∧ wpSeqT R P ops Q σ (a.put o.dst v) w
  | (i, false) :: σ, a, w => wpOp P ops Q i (fun a' w' => R w w' ∧ wpSeqT R P ops Q σ a' w') a w
theorem wpSeqT_sound {R : World → World → Prop} (hr : ∀ w, R w w) (ht : ∀ a b c, R a b → R b c → R a c) (hs : Region.noSelect ops = true) (hQ : ∀ c a d v w, Q (.panic c) (Act.put a d v) w → Q (.panic c) a w) : ∀ (σ : List (Nat × Bool)) (listed : Array Bool) (a : Act) (w : World),
    seqOK md ops σ listed = true → wpSeqT R P ops Q σ a w → wpAnyH P md ops Q (fun W => R w W) σ.length listed a w
  | [], listed, a, w, hok, h => by
    simp only [seqOK, beq_iff_eq] at hok
    exact wpAnyH_done hok h _
  | (i, true) :: σ, listed, a, w, hok, h => by
    simp only [seqOK, Bool.and_eq_true] at hok
    obtain ⟨o, v, hi, hy, hr'⟩ := h
    exact takes_now hi hs hok.1.1 hok.1.2 (fun c a w => hQ c a o.dst v w) hy (hr w) (wpSeqT_sound hr ht hs hQ σ _ _ w hok.2 hr')
  | (i, false) :: σ, listed, a, w, hok, h => by
    simp only [seqOK, Bool.and_eq_true, beq_iff_eq] at hok
    refine wpAnyH_all hok.1 (by simp) (fun j hj => ?_)
    obtain rfl : j = i := by simpa using hj
    exact wpOp_mono (fun a' w' h' => ⟨h'.1, wpAnyH_mono (fun W hW => ht _ _ _ h'.1 hW) _ _ _ _ (wpSeqT_sound hr ht hs hQ σ _ a' w' hok.2 h'.2)⟩) h
theorem wp_region_seqT {id : Nat} {a : Act} {w : World} (hm : P.follows .mixedOrders = true) (σ : List (Nat × Bool)) (hs : Region.noSelect ops = true) (hl : σ.length = ops.size) (hok : seqOK .any ops σ (Array.replicate ops.size false) = true)
    (h : ∀ w0, Below w.heap.size w w0 → wpSeqT (fun w W => Below w.heap.size w W) P ops (NoPanic Q) σ a w0) : (Code.region id ops true).wp P Q a w := by
  refine wp_region_noPanic (wp_region_held (S := fun W => Below w.drew.heap.size w.drew W) hm ?_)
  have := wpSeqT_sound (R := fun w W => Below w.heap.size w W) (md := .any) (fun _ => Below.refl _ _) (fun _ _ _ => bel_step) hs (fun c a d v w h => h) σ _ a w.drew hok (h _ (Below.refl _ _).drew)
  rw [hl] at this
  exact this
theorem wp_region_seqTB {id : Nat} {a : Act} {w : World} (B : Nat) (hm : P.follows .mixedOrders = true) (σ : List (Nat × Bool)) (hs : Region.noSelect ops = true) (hl : σ.length = ops.size) (hok : seqOK .any ops σ (Array.replicate ops.size false) = true)
    (h : ∀ w0, Below w.heap.size w w0 → wpSeqT (fun w W => Below B w W) P ops (NoPanic Q) σ a w0) : (Code.region id ops true).wp P Q a w := by
  refine wp_region_noPanic (wp_region_held (S := fun W => Below B w.drew W) hm ?_)
  have := wpSeqT_sound (R := fun w W => Below B w W) (md := .any) (fun _ => Below.refl _ _) (fun _ _ _ => Below.trans) hs (fun c a d v w h => h) σ _ a w.drew hok (h _ (Below.refl _ _).drew)
  rw [hl] at this
  exact this
theorem wpSeqT_nil {R : World → World → Prop} {a : Act} {w : World} (h : Q .normal a w) : wpSeqT R P ops (NoPanic Q) [] a w := h
theorem wpSeqT_take {R : World → World → Prop} {i : Nat} {o : Oper} {σ : List (Nat × Bool)} {a : Act} {w : World} {v : Value} (hi : ops[i]? = some o) (hw : Region.wanted o (yielded ops a.tmps) = true)
    (hy : ∀ W, R w W → (execOp a.eval o).run P W = .ok (.value v) W) (h : wpSeqT R P ops Q σ (a.put o.dst v) w) : wpSeqT R P ops Q ((i, true) :: σ) a w := ⟨o, v, hi, .inl ⟨hw, .inl hy⟩, h⟩
theorem wpSeqT_call {R : World → World → Prop} {i : Nat} {o : Oper} {σ : List (Nat × Bool)} {a : Act} {w : World} {v : Value} {f : FuncId} {args : Array Value} (hi : ops[i]? = some o) (hw : Region.wanted o (yielded ops a.tmps) = true)
    (hc : ∀ W, R w W → Calls P f args W fun e w' => e = .returned v ∧ W = w') (he : ∀ W, R w W → (execOp a.eval o).run P W = .ok (.enter f args) W) (h : wpSeqT R P ops Q σ (a.put o.dst v) w) : wpSeqT R P ops Q ((i, true) :: σ) a w := ⟨o, v, hi, .inl ⟨hw, .inr ⟨f, args, fun W hW => ⟨he W hW, hc W hW⟩⟩⟩, h⟩
theorem wpSeqT_exec {R : World → World → Prop} {i : Nat} {o : Oper} {σ : List (Nat × Bool)} {a : Act} {w : World} (hi : ops[i]? = some o) (hw : Region.wanted o (yielded ops a.tmps) = true)
    (h : ∀ K : Act → World → Prop, (∀ a' w', R w w' → wpSeqT R P ops Q σ a' w' → K a' w') → o.wp P a w K Q) : wpSeqT R P ops Q ((i, false) :: σ) a w := by
  have := h (fun a' w' => R w w' ∧ wpSeqT R P ops Q σ a' w') (fun a' w' h1 h2 => ⟨h1, h2⟩)
  unfold wpSeqT wpOp
  simp only [hi, hw, if_true]
  exact .inl this
end
end Go.Nst
end
section
namespace Go.Nst
open Go.RowKit
set_option linter.unusedVariables false

section
variable {P : Program} {ops : Array Oper} {Q : Exit → Act → World → Prop} {md : Region.Mode} {S : World → Prop}
/-- which operation comes up: it is taken first; it alone may come up; one of two may -/
inductive Ord where
  | nil
  | take (i : Nat) (t : Ord)
  | exec (i : Nat) (t : Ord)
  | two (i : Nat) (t : Ord) (k : Nat) (u : Ord)
def Ord.len : Ord → Nat
  | .nil => 0
  | .take _ t => t.len + 1
  | .exec _ t => t.len + 1
  | .two _ t _ u => max t.len u.len + 1
def wpOrd (R : World → World → Prop) (P : Program) (ops : Array Oper) (Q : Exit → Act → World → Prop) : Ord → Act → World → Prop
  | .nil, a, w => Q .normal a w
  | .take i t, a, w => ∃ o v, ops[i]? = some o ∧ TakesIf P ops (fun W => R w W) o v a ∧ wpOrd R P ops Q t (a.put o.dst v) w
  | .exec i t, a, w => wpOp P ops Q i (fun a' w' => R w w' ∧ wpOrd R P ops Q t a' w') a w
  | .two i t k u, a, w => wpOp P ops Q i (fun a' w' => R w w' ∧ wpOrd R P ops Q t a' w') a w ∧ wpOp P ops Q k (fun a' w' => R w w' ∧ wpOrd R P ops Q u a' w') a w
def ordOK (md : Region.Mode) (ops : Array Oper) : Ord → Array Bool → Bool
  | .nil, listed => Region.ready md ops listed == []
  | .take i t, listed => Region.free md ops listed i && (Region.ready md ops listed).contains i && ordOK md ops t (listed.setIfInBounds i true)
  | .exec i t, listed => Region.ready md ops listed == [i] && ordOK md ops t (listed.setIfInBounds i true)
  | .two i t k u, listed => Region.ready md ops listed == [i, k] && ordOK md ops t (listed.setIfInBounds i true) && ordOK md ops u (listed.setIfInBounds k true)
theorem wpOrd_sound {R : World → World → Prop} (hr : ∀ w, R w w) (ht : ∀ a b c, R a b → R b c → R a c) (hs : Region.noSelect ops = true) (hQ : ∀ c a d v w, Q (.panic c) (Act.put a d v) w → Q (.panic c) a w) : ∀ (t : Ord) (fuel : Nat) (listed : Array Bool) (a : Act) (w : World),
    t.len ≤ fuel → ordOK md ops t listed = true → wpOrd R P ops Q t a w → wpAnyH P md ops Q (fun W => R w W) fuel listed a w
  | .nil, fuel, listed, a, w, _, hok, h => by
    simp only [ordOK, beq_iff_eq] at hok
    exact wpAnyH_done hok h _
  | .take i t, 0, listed, a, w, hf, _, _ => by simp [Ord.len] at hf
  | .exec i t, 0, listed, a, w, hf, _, _ => by simp [Ord.len] at hf
  | .two i t k u, 0, listed, a, w, hf, _, _ => by simp [Ord.len] at hf
  | .take i t, fuel + 1, listed, a, w, hf, hok, h => by
    simp only [ordOK, Bool.and_eq_true] at hok
    obtain ⟨o, v, hi, hy, hr'⟩ := h
    exact takes_now hi hs hok.1.1 hok.1.2 (fun c a w => hQ c a o.dst v w) hy (hr w) (wpOrd_sound hr ht hs hQ t fuel _ _ w (by simp only [Ord.len] at hf; omega) hok.2 hr')
  | .exec i t, fuel + 1, listed, a, w, hf, hok, h => by
    simp only [ordOK, Bool.and_eq_true, beq_iff_eq] at hok
    refine wpAnyH_all hok.1 (by simp) (fun j hj => ?_)
    obtain rfl : j = i := by simpa using hj
    exact wpOp_mono (fun a' w' h' => ⟨h'.1, wpAnyH_mono (fun W hW => ht _ _ _ h'.1 hW) _ _ _ _ (wpOrd_sound hr ht hs hQ t fuel _ a' w' (by simp only [Ord.len] at hf; omega) hok.2 h'.2)⟩) h
  | .two i t k u, fuel + 1, listed, a, w, hf, hok, h => by
    simp only [ordOK, Bool.and_eq_true, beq_iff_eq] at hok
    refine wpAnyH_all hok.1.1 (by simp) (fun j hj => ?_)
    rcases (by simpa using hj : j = i ∨ j = k) with rfl | rfl
    · exact wpOp_mono (fun a' w' h' => ⟨h'.1, wpAnyH_mono (fun W hW => ht _ _ _ h'.1 hW) _ _ _ _ (wpOrd_sound hr ht hs hQ t fuel _ a' w' (by simp only [Ord.len] at hf; omega) hok.1.2 h'.2)⟩) h.1
    · exact wpOp_mono (fun a' w' h' => ⟨h'.1, wpAnyH_mono (fun W hW => ht _ _ _ h'.1 hW) _ _ _ _ (wpOrd_sound hr ht hs hQ u fuel _ a' w' (by simp only [Ord.len] at hf; omega) hok.2 h'.2)⟩) h.2
theorem wp_region_ordR (R : World → World → Prop) (hr : ∀ w, R w w) (ht : ∀ a b c, R a b → R b c → R a c) {id : Nat} {a : Act} {w : World} (hm : P.follows .mixedOrders = true) (t : Ord) (hs : Region.noSelect ops = true) (hl : Nat.ble t.len ops.size = true) (hok : ordOK .any ops t (Array.replicate ops.size false) = true)
    (h : wpOrd R P ops (NoPanic Q) t a w.drew) : (Code.region id ops true).wp P Q a w := by
  refine wp_region_noPanic (wp_region_held (S := fun W => R w.drew W) hm ?_)
  exact wpOrd_sound (md := .any) hr ht hs (fun c a d v w h => h) t _ _ a w.drew (Nat.le_of_ble_eq_true hl) hok h
theorem wpOrd_nil {R : World → World → Prop} {a : Act} {w : World} (h : Q .normal a w) : wpOrd R P ops (NoPanic Q) .nil a w := h
theorem wpOrd_take {R : World → World → Prop} {i : Nat} {o : Oper} {t : Ord} {a : Act} {w : World} {v : Value} (hi : ops[i]? = some o) (hw : Region.wanted o (yielded ops a.tmps) = true)
    (hy : ∀ W, R w W → (execOp a.eval o).run P W = .ok (.value v) W) (h : wpOrd R P ops Q t (a.put o.dst v) w) : wpOrd R P ops Q (.take i t) a w := ⟨o, v, hi, .inl ⟨hw, .inl hy⟩, h⟩
theorem wpOrd_skip {R : World → World → Prop} {i : Nat} {o : Oper} {t : Ord} {a : Act} {w : World} (hi : ops[i]? = some o) (hw : Region.wanted o (yielded ops a.tmps) = false)
    (h : wpOrd R P ops Q t (a.put o.dst undef) w) : wpOrd R P ops Q (.take i t) a w := ⟨o, undef, hi, .inr ⟨hw, rfl⟩, h⟩
theorem wpOrd_exec {R : World → World → Prop} {i : Nat} {o : Oper} {t : Ord} {a : Act} {w : World} (hi : ops[i]? = some o) (hw : Region.wanted o (yielded ops a.tmps) = true)
    (h : ∀ K : Act → World → Prop, (∀ a' w', R w w' → wpOrd R P ops Q t a' w' → K a' w') → o.wp P a w K Q) : wpOrd R P ops Q (.exec i t) a w := by
  have := h (fun a' w' => R w w' ∧ wpOrd R P ops Q t a' w') (fun a' w' h1 h2 => ⟨h1, h2⟩)
  unfold wpOrd wpOp
  simp only [hi, hw, if_true]
  exact .inl this
theorem wpOrd_none {R : World → World → Prop} (hr : ∀ w, R w w) {i : Nat} {o : Oper} {t : Ord} {a : Act} {w : World} (hi : ops[i]? = some o) (hw : Region.wanted o (yielded ops a.tmps) = false)
    (h : wpOrd R P ops Q t (a.put o.dst undef) w) : wpOrd R P ops Q (.exec i t) a w := by
  unfold wpOrd wpOp
  simp only [hi, hw]
  exact ⟨hr _, h⟩
end
def Kep (B : Nat) (T : TypeId) (w W : World) : Prop := Below B w W ∧ ∀ (i : Nat) (cs : Array Value) (t : TypeId) (fr : Nat × Nat), w.heap[i]? = some (Obj.cells cs t fr) → t ≠ T → W.heap[i]? = some (Obj.cells cs t fr)
theorem Kep.refl (B : Nat) (T : TypeId) (w : World) : Kep B T w w := ⟨Below.refl _ _, fun _ _ _ _ h _ => h⟩
theorem Kep.trans {B : Nat} {T : TypeId} (a b c : World) (h : Kep B T a b) (k : Kep B T b c) : Kep B T a c := ⟨h.1.trans k.1, fun i cs t fr hh ht => k.2 i cs t fr (h.2 i cs t fr hh ht) ht⟩
theorem Kep.blk {B : Nat} {T : TypeId} {a b : World} (h : Kep B T a b) {g : Nat} {t : TypeId} {cs : Array Value} (hg : Blk a g t cs) (ht : t ≠ T) : Blk b g t cs := h.2 g cs t (0, 0) hg ht
theorem Kep.alloc {B : Nat} {T : TypeId} {w : World} (hB : B ≤ w.heap.size) (o : Obj) : Kep B T w (w.alloc o) :=
  ⟨(Below.refl _ _).alloc hB o, fun i cs t fr hh _ => (Below.heap_alloc w o i (Array.getElem?_eq_some_iff.1 hh).1).trans hh⟩
theorem Kep.set {B : Nat} {T : TypeId} {w : World} {g : Nat} {cs : Array Value} (hD : Blk w g T cs) (hB : B ≤ g) (i : Nat) (v : Value) : Kep B T w (w.setCell ⟨g, i, none⟩ v) :=
  ⟨(Below.refl _ _).setCell (p := ⟨g, i, none⟩) hB v, fun j cs' t fr hh ht => by
    have hne : j ≠ g := by
      rintro rfl
      rw [hD] at hh
      injection hh with hh
      injection hh with h1 h2 h3
      exact ht h2.symm
    exact (Below.heap_setCell w ⟨g, i, none⟩ v j hne).trans hh⟩
end Go.Nst
end
end
section
namespace Go.Proofs.YtjjlmkleidbmhaaGreatDoor
open Go.RowKit Go.Nst
set_option maxRecDepth 100000
set_option linter.unusedVariables false
set_option linter.unusedSimpArgs false

theorem ba_app14 (a b : List UInt8) : (ByteArray.mk a.toArray) ++ (ByteArray.mk b.toArray) = ⟨(a ++ b).toArray⟩ := by
  apply ByteArray.ext
  simp [ByteArray.data_append]
theorem dig_char14 (d : Nat) (h : d < 10) : (ByteArray.mk #[48, 49, 50, 51, 52, 53, 54, 55, 56, 57]).extract d (d + 1) = ⟨#[UInt8.ofNat (48 + d)]⟩ := by
  rcases (by omega : d = 0 ∨ d = 1 ∨ d = 2 ∨ d = 3 ∨ d = 4 ∨ d = 5 ∨ d = 6 ∨ d = 7 ∨ d = 8 ∨ d = 9) with rfl | rfl | rfl | rfl | rfl | rfl | rfl | rfl | rfl | rfl <;> rfl
theorem str_at14 (s : ByteArray) (k : Nat) (w : World) (h : k < s.size) : (Instr.index 9 (.string s) (.int .i64 (k : Int))).run Tryz.prog w = .ok (.int .u8 (((s[k]'h).toNat : Nat) : Int)) w := by
  rw [run_index_string w 9 s .i64 _ Tryz.underlying9, dif_pos (by omega)]
  rfl
theorem dec_len (u : Nat) (h : u < 10 ^ 19) : (Lib.decDigits u).length ≤ 19 := by
  rw [Lib.decDigits_length]
  rcases Nat.lt_or_ge 19 (Lib.nDigits u) with h1 | h1
  · exfalso
    have h2 : 10 ^ (Lib.nDigits u - 1) ≤ u := by
      obtain ⟨k, hk⟩ : ∃ k, Lib.nDigits u = k + 1 := ⟨Lib.nDigits u - 1, by omega⟩
      rcases Nat.lt_or_ge u (10 ^ k) with hlt | hge
      · exfalso
        have : ∀ (k u : Nat), u < 10 ^ k → 1 ≤ k → Lib.nDigits u ≤ k := by
          intro k
          induction k with
          | zero => intro u _ h; omega
          | succ k ih =>
            intro u hu _
            by_cases h10 : u < 10
            · rw [Lib.nDigits_small h10]
              omega
            · rw [Lib.nDigits_big h10]
              have hk : 1 ≤ k := by
                rcases Nat.eq_zero_or_pos k with e | e
                · subst e
                  simp at hu
                  omega
                · exact e
              have := ih (u / 10) (by rw [Nat.pow_succ] at hu; omega) hk
              omega
        have h3 := this k u hlt (by omega)
        omega
      · rw [hk]
        exact hge
    have h3 : (10 : Nat) ^ 19 ≤ 10 ^ (Lib.nDigits u - 1) := Nat.pow_le_pow_right (by omega) (by omega)
    omega
  · exact h1
def emptyN : Value → Nat
  | .string b => if b.size = 0 then 1 else 0
  | _ => 0
set_option maxHeartbeats 4000000 in
theorem digN_any (u : Nat) (w : World) (hu : (u : Int) ≤ 9223372036854775807) : Calls Tryz.prog 45 #[.int .i64 (u : Int)] w fun e w' => e = .returned (.string ⟨(Lib.decDigits u).toArray⟩) ∧ w = w' := by
  have hDL := dec_len u (by omega)
  have t0 : ((u : Int) == -9223372036854775808) = false := by rw [beq_eq_false_iff_ne]; omega
  have t1 : decide ((u : Int) < 0) = false := by rw [decide_eq_false_iff_not]; omega
  obtain ⟨D, hD⟩ : ∃ D, Lib.decDigits u = D := ⟨_, rfl⟩
  rw [hD] at hDL ⊢
  have HD := Lib.hid hD
  clear hD
  go_enter Tryz.func45, Tryz.ntmps45
  go_wp2_with fail
  go_loop [0, 3] (fun n s => ∃ (q : Nat) (L : List UInt8), n = .int .i64 (q : Int) ∧ s = .string ⟨L.toArray⟩ ∧ q ≤ u ∧ L.length ≤ 19 ∧ Hid (D = if L = [] then Lib.decDigits q else if q = 0 then L else Lib.decDigits q ++ L)) (fun n s => (intOf n).toNat * 2 + emptyN s)
  case atStart => exact ⟨u, [], rfl, rfl, by omega, by simp, Lib.hid (by rw [if_pos rfl]; exact HD.out.symm)⟩
  case round =>
    obtain ⟨q, L, rfl, rfl, hq, hL, HI⟩ := hrel
    have hmain : ∀ (h : ¬ (q = 0 ∧ L ≠ [])), Hid (D = if UInt8.ofNat (48 + q % 10) :: L = [] then Lib.decDigits (q / 10) else if q / 10 = 0 then UInt8.ofNat (48 + q % 10) :: L else Lib.decDigits (q / 10) ++ UInt8.ofNat (48 + q % 10) :: L) := by
      intro h
      have h0 := HI.out
      have hdq : Lib.decDigits q = if q / 10 = 0 then [UInt8.ofNat (48 + q % 10)] else Lib.decDigits (q / 10) ++ [UInt8.ofNat (48 + q % 10)] := by
        conv => lhs; rw [Lib.decDigits]
        by_cases h10 : q < 10
        · rw [dif_pos h10, if_pos (by omega), Nat.mod_eq_of_lt h10]
        · rw [dif_neg h10, if_neg (by omega)]
      refine Lib.hid ?_
      rw [if_neg (by simp), h0]
      by_cases hl : L = []
      · subst hl
        rw [if_pos rfl, hdq]
      · have hq0 : q ≠ 0 := fun e => h ⟨e, hl⟩
        rw [if_neg hl, if_neg hq0, hdq]
        split
        · rfl
        · simp
    have hlen : ¬ (q = 0 ∧ L ≠ []) → L.length < 19 := by
      intro h
      have h0 := HI.out
      by_cases hl : L = []
      · subst hl; simp
      · rw [if_neg hl, if_neg (fun e => h ⟨e, hl⟩)] at h0
        have h2 := congrArg List.length h0
        rw [List.length_append] at h2
        have h3 : 1 ≤ (Lib.decDigits q).length := by rw [Lib.decDigits_length]; exact Lib.nDigits_pos q
        omega
    by_cases hend : q = 0 ∧ L ≠ []
    · obtain ⟨rfl, hl⟩ := hend
      have HE : Hid (D = L) := Lib.hid (by have h0 := HI.out; rw [if_neg hl, if_pos rfl] at h0; exact h0)
      have e1 : (L == []) = false := by simpa using hl
      have e2 : L.isEmpty = false := by cases L with | nil => exact absurd rfl hl | cons a t => rfl
      clear hmain hlen hl HI
      go_wp2_with fail
      go_ret
      rw [HE.out]
      exact ⟨rfl, rfl⟩
    · have HN := hmain hend
      have hl2 := hlen hend
      by_cases hq0 : q = 0
      · subst hq0
        have hl : L = [] := by
          by_cases h : L = []
          · exact h
          · exact absurd ⟨rfl, h⟩ hend
        subst hl
        have HN0 : Hid (D = if [(48 : UInt8)] = [] then Lib.decDigits 0 else if (0 : Nat) = 0 then [48] else Lib.decDigits 0 ++ [48]) := HN
        clear hend hmain hlen HI HN
        go_wp2_with fail
        go_round
        case rel => exact ⟨0, [48], rfl, rfl, by omega, by simp, HN0⟩
        case measure => first | decide | decide +kernel
      obtain ⟨d, hd⟩ : ∃ d : Nat, q % 10 = d := ⟨_, rfl⟩
      have hd10 : d < 10 := by omega
      have t1 : ((q : Int)).tmod 10 = (d : Int) := by rw [Int.tmod_eq_emod_of_nonneg (by omega)]; omega
      have t2 : ((q : Int)).tdiv 10 = ((q / 10 : Nat) : Int) := by rw [Int.tdiv_eq_ediv_of_nonneg (by omega)]; rfl
      have t3 : IntKind.i64.wrap ((q : Int) / 10) = ((q / 10 : Nat) : Int) := by rw [IntWalk.i64_in _ (by omega)]; rfl
      have t4 : (q : Int) / 10 = ((q / 10 : Nat) : Int) := rfl
      have hch := dig_char14 d hd10
      have HS : Hid ((ByteArray.mk #[UInt8.ofNat (48 + d)]) ++ (ByteArray.mk L.toArray) = ⟨(UInt8.ofNat (48 + d) :: L).toArray⟩) := Lib.hid (by
        rw [show ByteArray.mk #[UInt8.ofNat (48 + d)] = ⟨[UInt8.ofNat (48 + d)].toArray⟩ from rfl, ba_app14]
        rfl)
      rw [hd] at HN
      have hq2 : q / 10 ≤ u := by omega
      have hms : (q / 10) < q := by omega
      have HMS := Lib.hid hms
      generalize UInt8.ofNat (48 + d) = c at *
      obtain ⟨q', hq'⟩ : ∃ q', q / 10 = q' := ⟨_, rfl⟩
      rw [hq'] at t2 t3 t4 hq2 HN HMS
      clear hd hmain hlen HI hms hq' t4
      have t5 : decide ((0 : Int) < (q : Int)) = true := by simp; omega
      have t5b : decide (0 < q) = true := by simp; omega
      clear hend
      go_wp2_with fail
      go_round
      case rel => exact ⟨q', c :: L, by first | rfl | (rw [t3]), by first | rfl | rw [HS.out], hq2, by simp; omega, HN⟩
      case measure =>
        have h9 := HMS.out
        simp [intOf, emptyN, t3]
        try omega
        try (split <;> omega)
theorem l_min : Lib.itoa (-9223372036854775808) = [45, 57, 50, 50, 51, 51, 55, 50, 48, 51, 54, 56, 53, 52, 55, 55, 53, 56, 48, 56] := by decide +kernel
set_option maxHeartbeats 4000000 in
theorem refDigits14_any (n : Int) (w : World) (h0 : -9223372036854775808 ≤ n) (h1 : n ≤ 9223372036854775807) : Calls Tryz.prog 45 #[.int .i64 n] w fun e w' => e = .returned (.string ⟨(Lib.itoa n).toArray⟩) ∧ w = w' := by
  by_cases hm : n = -9223372036854775808
  · subst hm
    rw [l_min]
    go_enter Tryz.func45, Tryz.ntmps45
    go_wp2_with fail
    go_ret
    exact ⟨rfl, rfl⟩
  · by_cases hn : n < 0
    · obtain ⟨u, hu⟩ : ∃ u : Nat, n = -(u : Int) := ⟨n.natAbs, by omega⟩
      subst hu
      have HD := Lib.hid (digN_any u w (by omega))
      have hl := dec_len u (by omega)
      rw [Lib.itoa_neg u (by omega)]
      have t0 : ((-(u : Int)) == -9223372036854775808) = false := by simp; omega
      have t1 : decide (-(u : Int) < 0) = true := by simp; omega
      have t2 : IntKind.i64.wrap (u : Int) = (u : Int) := IntWalk.i64_in _ (by omega)
      generalize Lib.decDigits u = D at *
      go_enter Tryz.func45, Tryz.ntmps45
      go_wp2_with fail
      (with_reducible refine (HD.out).mono ?_)
      rintro e w1 ⟨rfl, rfl⟩
      go_wp2_with fail
      go_ret
      exact ⟨by rw [show (ByteArray.mk #[45]) = ⟨[45].toArray⟩ from rfl, ba_app14]; rfl, rfl⟩
    · obtain ⟨u, rfl⟩ := Int.eq_ofNat_of_zero_le (show 0 ≤ n by omega)
      rw [Lib.itoa_nonneg]
      exact digN_any u w h1
end Go.Proofs.YtjjlmkleidbmhaaGreatDoor
end
