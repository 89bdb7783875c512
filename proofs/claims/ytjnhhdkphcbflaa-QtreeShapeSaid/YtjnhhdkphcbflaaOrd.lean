/-
  Regions that draw their order, whose orders part.
-/
import Derived.Test.YtjnhhdkphcbflaaTak
namespace Go.Nst
open Go.RowKit
set_option linter.unusedVariables false

section
variable {P : Program} {ops : Array Oper} {Q : Exit → Act → World → Prop} {md : Region.Mode} {S : World → Prop}
/-! ### orders that part -/
/-- which operation comes up: it is taken first; it alone may come up; one of two may -/
inductive Ord where
  | nil
  | take (i : Nat) (t : Ord)
  | exec (i : Nat) (t : Ord)
  | two (i : Nat) (t : Ord) (k : Nat) (u : Ord)
def Ord.len : Ord → Nat
  | .nil => 0
  | .take _ t => t.len + 1
  | .exec _ t => t.len + 1
  | .two _ t _ u => max t.len u.len + 1
def wpOrd (R : World → World → Prop) (P : Program) (ops : Array Oper) (Q : Exit → Act → World → Prop) : Ord → Act → World → Prop
  | .nil, a, w => Q .normal a w
  | .take i t, a, w => ∃ o v, ops[i]? = some o ∧ TakesIf P ops (fun W => R w W) o v a ∧ wpOrd R P ops Q t (a.put o.dst v) w
  | .exec i t, a, w => wpOp P ops Q i (fun a' w' => R w w' ∧ wpOrd R P ops Q t a' w') a w
  | .two i t k u, a, w => wpOp P ops Q i (fun a' w' => R w w' ∧ wpOrd R P ops Q t a' w') a w ∧ wpOp P ops Q k (fun a' w' => R w w' ∧ wpOrd R P ops Q u a' w') a w
def ordOK (md : Region.Mode) (ops : Array Oper) : Ord → Array Bool → Bool
  | .nil, listed => Region.ready md ops listed == []
  | .take i t, listed => Region.free md ops listed i && (Region.ready md ops listed).contains i && ordOK md ops t (listed.setIfInBounds i true)
  | .exec i t, listed => Region.ready md ops listed == [i] && ordOK md ops t (listed.setIfInBounds i true)
  | .two i t k u, listed => Region.ready md ops listed == [i, k] && ordOK md ops t (listed.setIfInBounds i true) && ordOK md ops u (listed.setIfInBounds k true)
theorem wpOrd_sound {R : World → World → Prop} (hr : ∀ w, R w w) (ht : ∀ a b c, R a b → R b c → R a c) (hs : Region.noSelect ops = true) (hQ : ∀ c a d v w, Q (.panic c) (Act.put a d v) w → Q (.panic c) a w) : ∀ (t : Ord) (fuel : Nat) (listed : Array Bool) (a : Act) (w : World),
    t.len ≤ fuel → ordOK md ops t listed = true → wpOrd R P ops Q t a w → wpAnyH P md ops Q (fun W => R w W) fuel listed a w
  | .nil, fuel, listed, a, w, _, hok, h => by
    simp only [ordOK, beq_iff_eq] at hok
    exact wpAnyH_done hok h _
  | .take i t, 0, listed, a, w, hf, _, _ => by simp [Ord.len] at hf
  | .exec i t, 0, listed, a, w, hf, _, _ => by simp [Ord.len] at hf
  | .two i t k u, 0, listed, a, w, hf, _, _ => by simp [Ord.len] at hf
  | .take i t, fuel + 1, listed, a, w, hf, hok, h => by
    simp only [ordOK, Bool.and_eq_true] at hok
    obtain ⟨o, v, hi, hy, hr'⟩ := h
    exact takes_now hi hs hok.1.1 hok.1.2 (fun c a w => hQ c a o.dst v w) hy (hr w) (wpOrd_sound hr ht hs hQ t fuel _ _ w (by simp only [Ord.len] at hf; omega) hok.2 hr')
  | .exec i t, fuel + 1, listed, a, w, hf, hok, h => by
    simp only [ordOK, Bool.and_eq_true, beq_iff_eq] at hok
    refine wpAnyH_all hok.1 (by simp) (fun j hj => ?_)
    obtain rfl : j = i := by simpa using hj
    exact wpOp_mono (fun a' w' h' => ⟨h'.1, wpAnyH_mono (fun W hW => ht _ _ _ h'.1 hW) _ _ _ _ (wpOrd_sound hr ht hs hQ t fuel _ a' w' (by simp only [Ord.len] at hf; omega) hok.2 h'.2)⟩) h
  | .two i t k u, fuel + 1, listed, a, w, hf, hok, h => by
    simp only [ordOK, Bool.and_eq_true, beq_iff_eq] at hok
    refine wpAnyH_all hok.1.1 (by simp) (fun j hj => ?_)
    rcases (by simpa using hj : j = i ∨ j = k) with rfl | rfl
    · exact wpOp_mono (fun a' w' h' => ⟨h'.1, wpAnyH_mono (fun W hW => ht _ _ _ h'.1 hW) _ _ _ _ (wpOrd_sound hr ht hs hQ t fuel _ a' w' (by simp only [Ord.len] at hf; omega) hok.1.2 h'.2)⟩) h.1
    · exact wpOp_mono (fun a' w' h' => ⟨h'.1, wpAnyH_mono (fun W hW => ht _ _ _ h'.1 hW) _ _ _ _ (wpOrd_sound hr ht hs hQ u fuel _ a' w' (by simp only [Ord.len] at hf; omega) hok.2 h'.2)⟩) h.2
theorem wp_region_ord {id : Nat} {a : Act} {w : World} (B : Nat) (hm : P.follows .mixedOrders = true) (t : Ord) (hs : Region.noSelect ops = true) (hl : Nat.ble t.len ops.size = true) (hok : ordOK .any ops t (Array.replicate ops.size false) = true)
    (h : ∀ w0, Below w.heap.size w w0 → w0.heap.size = w.heap.size → wpOrd (fun w W => Below B w W) P ops (NoPanic Q) t a w0) : (Code.region id ops true).wp P Q a w := by
  refine wp_region_noPanic (wp_region_held (S := fun W => Below B w.drew W) hm ?_)
  exact wpOrd_sound (R := fun w W => Below B w W) (md := .any) (fun _ => Below.refl _ _) (fun _ _ _ => Below.trans) hs (fun c a d v w h => h) t _ _ a w.drew (Nat.le_of_ble_eq_true hl) hok (h _ (Below.refl _ _).drew rfl)
theorem wp_region_ordR (R : World → World → Prop) (hr : ∀ w, R w w) (ht : ∀ a b c, R a b → R b c → R a c) {id : Nat} {a : Act} {w : World} (hm : P.follows .mixedOrders = true) (t : Ord) (hs : Region.noSelect ops = true) (hl : Nat.ble t.len ops.size = true) (hok : ordOK .any ops t (Array.replicate ops.size false) = true)
    (h : wpOrd R P ops (NoPanic Q) t a w.drew) : (Code.region id ops true).wp P Q a w := by
  refine wp_region_noPanic (wp_region_held (S := fun W => R w.drew W) hm ?_)
  exact wpOrd_sound (md := .any) hr ht hs (fun c a d v w h => h) t _ _ a w.drew (Nat.le_of_ble_eq_true hl) hok h
theorem wpOrd_nil {R : World → World → Prop} {a : Act} {w : World} (h : Q .normal a w) : wpOrd R P ops (NoPanic Q) .nil a w := h
theorem wpOrd_take {R : World → World → Prop} {i : Nat} {o : Oper} {t : Ord} {a : Act} {w : World} {v : Value} (hi : ops[i]? = some o) (hw : Region.wanted o (yielded ops a.tmps) = true)
    (hy : ∀ W, R w W → (execOp a.eval o).run P W = .ok (.value v) W) (h : wpOrd R P ops Q t (a.put o.dst v) w) : wpOrd R P ops Q (.take i t) a w := ⟨o, v, hi, .inl ⟨hw, .inl hy⟩, h⟩
theorem wpOrd_call {R : World → World → Prop} {i : Nat} {o : Oper} {t : Ord} {a : Act} {w : World} {v : Value} {f : FuncId} {args : Array Value} (hi : ops[i]? = some o) (hw : Region.wanted o (yielded ops a.tmps) = true)
    (hc : ∀ W, R w W → Calls P f args W fun e w' => e = .returned v ∧ W = w') (he : ∀ W, R w W → (execOp a.eval o).run P W = .ok (.enter f args) W) (h : wpOrd R P ops Q t (a.put o.dst v) w) : wpOrd R P ops Q (.take i t) a w := ⟨o, v, hi, .inl ⟨hw, .inr ⟨f, args, fun W hW => ⟨he W hW, hc W hW⟩⟩⟩, h⟩
theorem wpOrd_skip {R : World → World → Prop} {i : Nat} {o : Oper} {t : Ord} {a : Act} {w : World} (hi : ops[i]? = some o) (hw : Region.wanted o (yielded ops a.tmps) = false)
    (h : wpOrd R P ops Q t (a.put o.dst undef) w) : wpOrd R P ops Q (.take i t) a w := ⟨o, undef, hi, .inr ⟨hw, rfl⟩, h⟩
theorem wpOrd_exec {R : World → World → Prop} {i : Nat} {o : Oper} {t : Ord} {a : Act} {w : World} (hi : ops[i]? = some o) (hw : Region.wanted o (yielded ops a.tmps) = true)
    (h : ∀ K : Act → World → Prop, (∀ a' w', R w w' → wpOrd R P ops Q t a' w' → K a' w') → o.wp P a w K Q) : wpOrd R P ops Q (.exec i t) a w := by
  have := h (fun a' w' => R w w' ∧ wpOrd R P ops Q t a' w') (fun a' w' h1 h2 => ⟨h1, h2⟩)
  unfold wpOrd wpOp
  simp only [hi, hw, if_true]
  exact .inl this
theorem wpOrd_none {R : World → World → Prop} (hr : ∀ w, R w w) {i : Nat} {o : Oper} {t : Ord} {a : Act} {w : World} (hi : ops[i]? = some o) (hw : Region.wanted o (yielded ops a.tmps) = false)
    (h : wpOrd R P ops Q t (a.put o.dst undef) w) : wpOrd R P ops Q (.exec i t) a w := by
  unfold wpOrd wpOp
  simp only [hi, hw]
  exact ⟨hr _, h⟩
theorem wpOrd_two {R : World → World → Prop} {i k : Nat} {t u : Ord} {a : Act} {w : World} (h1 : wpOrd R P ops Q (.exec i t) a w) (h2 : wpOrd R P ops Q (.exec k u) a w) : wpOrd R P ops Q (.two i t k u) a w := ⟨h1, h2⟩
end
/-! ### old blocks stay, and new ones too, if their cells are not of the type T -/
def Kep (B : Nat) (T : TypeId) (w W : World) : Prop := Below B w W ∧ ∀ (i : Nat) (cs : Array Value) (t : TypeId) (fr : Nat × Nat), w.heap[i]? = some (Obj.cells cs t fr) → t ≠ T → W.heap[i]? = some (Obj.cells cs t fr)
theorem Kep.refl (B : Nat) (T : TypeId) (w : World) : Kep B T w w := ⟨Below.refl _ _, fun _ _ _ _ h _ => h⟩
theorem Kep.trans {B : Nat} {T : TypeId} (a b c : World) (h : Kep B T a b) (k : Kep B T b c) : Kep B T a c := ⟨h.1.trans k.1, fun i cs t fr hh ht => k.2 i cs t fr (h.2 i cs t fr hh ht) ht⟩
theorem Kep.blk {B : Nat} {T : TypeId} {a b : World} (h : Kep B T a b) {g : Nat} {t : TypeId} {cs : Array Value} (hg : Blk a g t cs) (ht : t ≠ T) : Blk b g t cs := h.2 g cs t (0, 0) hg ht
theorem Kep.alloc {B : Nat} {T : TypeId} {w : World} (hB : B ≤ w.heap.size) (o : Obj) : Kep B T w (w.alloc o) :=
  ⟨(Below.refl _ _).alloc hB o, fun i cs t fr hh _ => (Below.heap_alloc w o i (Array.getElem?_eq_some_iff.1 hh).1).trans hh⟩
theorem Kep.set {B : Nat} {T : TypeId} {w : World} {g : Nat} {cs : Array Value} (hD : Blk w g T cs) (hB : B ≤ g) (i : Nat) (v : Value) : Kep B T w (w.setCell ⟨g, i, none⟩ v) :=
  ⟨(Below.refl _ _).setCell (p := ⟨g, i, none⟩) hB v, fun j cs' t fr hh ht => by
    have hne : j ≠ g := by
      rintro rfl
      rw [hD] at hh
      injection hh with hh
      injection hh with h1 h2 h3
      exact ht h2.symm
    exact (Below.heap_setCell w ⟨g, i, none⟩ v j hne).trans hh⟩
theorem Kep.put6 {B : Nat} {T : TypeId} {w : World} {g : Nat} {cs : Array Value} (hD : Blk w g T cs) (hB : B ≤ g) (v0 v1 v2 v3 v4 v5 : Value) : Kep B T w ((((((w.setCell ⟨g, 0, none⟩ v0).setCell ⟨g, 1, none⟩ v1).setCell ⟨g, 2, none⟩ v2).setCell ⟨g, 3, none⟩ v3).setCell ⟨g, 4, none⟩ v4).setCell ⟨g, 5, none⟩ v5) := by
  have h0 := hD.set_ 0 v0
  have h1 := h0.set_ 1 v1
  have h2 := h1.set_ 2 v2
  have h3 := h2.set_ 3 v3
  have h4 := h3.set_ 4 v4
  exact Kep.trans _ _ _ (Kep.trans _ _ _ (Kep.trans _ _ _ (Kep.trans _ _ _ (Kep.trans _ _ _ (Kep.set hD hB 0 v0) (Kep.set h0 hB 1 v1)) (Kep.set h1 hB 2 v2)) (Kep.set h2 hB 3 v3)) (Kep.set h3 hB 4 v4)) (Kep.set h4 hB 5 v5)
end Go.Nst
