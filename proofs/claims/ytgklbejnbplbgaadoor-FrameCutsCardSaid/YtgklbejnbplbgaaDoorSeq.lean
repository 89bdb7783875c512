/-
  A region that draws its order, walked in one order: reads are taken first, whatever else is done comes up alone; what holds of the world holds of every world that has only grown since.
-/
import Derived.Test.YtgklbejnbplbgaaDoorWords
import Derived.Deep.RegionHeld3
namespace Go.Nst
open Go.RowKit

section
variable {P : Program} {ops : Array Oper} {Q : Exit → Act → World → Prop} {md : Region.Mode}

theorem wpAnyH_mono {S S' : World → Prop} (hS : ∀ w, S' w → S w) : ∀ (fuel : Nat) (listed : Array Bool) (a : Act) (w : World), wpAnyH P md ops Q S' fuel listed a w → wpAnyH P md ops Q S fuel listed a w
  | 0, _, _, _, h => h
  | fuel + 1, _, _, _, h => ⟨h.1, fun i hi => wpOp_mono (fun a' w' h' => ⟨hS w' h'.1, wpAnyH_mono hS fuel _ a' w' h'.2⟩) (h.2 i hi)⟩

/-- the operations in the order of σ; (i, true): operation i only reads: it yields its value in every world that has come out of this one as R says -/
def wpSeqR (R : World → World → Prop) (P : Program) (ops : Array Oper) (Q : Exit → Act → World → Prop) : List (Nat × Bool) → Act → World → Prop
  | [], a, w => Q .normal a w
  | (i, true) :: σ, a, w => ∃ o v, ops[i]? = some o ∧ YieldsIf P ops (fun W => R w W) o v a ∧ wpSeqR R P ops Q σ (a.put o.dst v) w
  | (i, false) :: σ, a, w => wpOp P ops Q i (fun a' w' => R w w' ∧ wpSeqR R P ops Q σ a' w') a w

/-- may the operations be walked in this order alone? -/
def seqOK (md : Region.Mode) (ops : Array Oper) : List (Nat × Bool) → Array Bool → Bool
  | [], listed => Region.ready md ops listed == []
  | (i, true) :: σ, listed => Region.free md ops listed i && (Region.ready md ops listed).contains i && seqOK md ops σ (listed.setIfInBounds i true)
  | (i, false) :: σ, listed => Region.ready md ops listed == [i] && seqOK md ops σ (listed.setIfInBounds i true)

theorem wpSeqR_sound {R : World → World → Prop} (hr : ∀ w, R w w) (ht : ∀ a b c, R a b → R b c → R a c) (hs : Region.noSelect ops = true) (hQ : ∀ c a d v w, Q (.panic c) (Act.put a d v) w → Q (.panic c) a w) : ∀ (σ : List (Nat × Bool)) (listed : Array Bool) (a : Act) (w : World),
    seqOK md ops σ listed = true → wpSeqR R P ops Q σ a w → wpAnyH P md ops Q (fun W => R w W) σ.length listed a w
  | [], listed, a, w, hok, h => by
    simp only [seqOK, beq_iff_eq] at hok
    exact wpAnyH_done hok h _
  | (i, true) :: σ, listed, a, w, hok, h => by
    simp only [seqOK, Bool.and_eq_true] at hok
    obtain ⟨o, v, hi, hy, hr'⟩ := h
    exact wpAnyH_take hi hs hok.1.1 hok.1.2 (fun c a w => hQ c a o.dst v w) hy (hr w) (wpSeqR_sound hr ht hs hQ σ _ _ w hok.2 hr')
  | (i, false) :: σ, listed, a, w, hok, h => by
    simp only [seqOK, Bool.and_eq_true, beq_iff_eq] at hok
    refine wpAnyH_all hok.1 (by simp) (fun j hj => ?_)
    obtain rfl : j = i := by simpa using hj
    exact wpOp_mono (fun a' w' h' => ⟨h'.1, wpAnyH_mono (fun W hW => ht _ _ _ h'.1 hW) _ _ _ _ (wpSeqR_sound hr ht hs hQ σ _ a' w' hok.2 h'.2)⟩) h

/-- the beginning; σ names every operation -/
theorem wp_region_seqR (R : World → World → Prop) (hr : ∀ w, R w w) (ht : ∀ a b c, R a b → R b c → R a c) {id : Nat} {a : Act} {w : World} (hm : P.follows .mixedOrders = true) (σ : List (Nat × Bool)) (hs : Region.noSelect ops = true) (hl : σ.length = ops.size) (hok : seqOK .any ops σ (Array.replicate ops.size false) = true)
    (hd : R w w.drew) (h : ∀ w0, R w w0 → wpSeqR R P ops (NoPanic Q) σ a w0) : (Code.region id ops true).wp P Q a w := by
  refine wp_region_noPanic (wp_region_held (S := fun W => R w.drew W) hm ?_)
  have := wpSeqR_sound (md := .any) hr ht hs (fun c a d v w h => h) σ _ a w.drew hok (h _ hd)
  rw [hl] at this
  exact this

/-- the same from the very world behind the draw -/
theorem wp_region_seqD (R : World → World → Prop) (hr : ∀ w, R w w) (ht : ∀ a b c, R a b → R b c → R a c) {id : Nat} {a : Act} {w : World} (hm : P.follows .mixedOrders = true) (σ : List (Nat × Bool)) (hs : Region.noSelect ops = true) (hl : σ.length = ops.size) (hok : seqOK .any ops σ (Array.replicate ops.size false) = true)
    (h : wpSeqR R P ops (NoPanic Q) σ a w.drew) : (Code.region id ops true).wp P Q a w := by
  refine wp_region_noPanic (wp_region_held (S := fun W => R w.drew W) hm ?_)
  have := wpSeqR_sound (md := .any) hr ht hs (fun c a d v w h => h) σ _ a w.drew hok h
  rw [hl] at this
  exact this

theorem wpSeqR_nil {R : World → World → Prop} {a : Act} {w : World} (h : Q .normal a w) : wpSeqR R P ops (NoPanic Q) [] a w := h
theorem wpSeqR_take {R : World → World → Prop} {i : Nat} {o : Oper} {σ : List (Nat × Bool)} {a : Act} {w : World} {v : Value} (hi : ops[i]? = some o) (hw : Region.wanted o (yielded ops a.tmps) = true)
    (hy : ∀ W, R w W → (execOp a.eval o).run P W = .ok (.value v) W) (h : wpSeqR R P ops Q σ (a.put o.dst v) w) : wpSeqR R P ops Q ((i, true) :: σ) a w := ⟨o, v, hi, .inl ⟨hw, hy⟩, h⟩
theorem wpSeqR_skip {R : World → World → Prop} {i : Nat} {o : Oper} {σ : List (Nat × Bool)} {a : Act} {w : World} (hi : ops[i]? = some o) (hw : Region.wanted o (yielded ops a.tmps) = false)
    (h : wpSeqR R P ops Q σ (a.put o.dst undef) w) : wpSeqR R P ops Q ((i, true) :: σ) a w := ⟨o, undef, hi, .inr ⟨hw, rfl⟩, h⟩
theorem wpSeqR_exec {R : World → World → Prop} {i : Nat} {o : Oper} {σ : List (Nat × Bool)} {a : Act} {w : World} (hi : ops[i]? = some o) (hw : Region.wanted o (yielded ops a.tmps) = true)
    (h : ∀ K : Act → World → Prop, (∀ a' w', R w w' → wpSeqR R P ops Q σ a' w' → K a' w') → o.wp P a w K Q) : wpSeqR R P ops Q ((i, false) :: σ) a w := by
  have := h (fun a' w' => R w w' ∧ wpSeqR R P ops Q σ a' w') (fun a' w' h1 h2 => ⟨h1, h2⟩)
  unfold wpSeqR wpOp
  simp only [hi, hw, if_true]
  exact .inl this
theorem wpSeqR_none {R : World → World → Prop} (hr : ∀ w, R w w) {i : Nat} {o : Oper} {σ : List (Nat × Bool)} {a : Act} {w : World} (hi : ops[i]? = some o) (hw : Region.wanted o (yielded ops a.tmps) = false)
    (h : wpSeqR R P ops Q σ (a.put o.dst undef) w) : wpSeqR R P ops Q ((i, false) :: σ) a w := by
  unfold wpSeqR wpOp
  simp only [hi, hw]
  exact ⟨hr _, h⟩

/-! ### where nothing that was there changes -/
def wpSeq (P : Program) (ops : Array Oper) (Q : Exit → Act → World → Prop) (σ : List (Nat × Bool)) (a : Act) (w : World) : Prop := wpSeqR (fun w W => Below w.heap.size w W) P ops Q σ a w
theorem wp_region_seq {id : Nat} {a : Act} {w : World} (hm : P.follows .mixedOrders = true) (σ : List (Nat × Bool)) (hs : Region.noSelect ops = true) (hl : σ.length = ops.size) (hok : seqOK .any ops σ (Array.replicate ops.size false) = true)
    (h : ∀ w0, Below w.heap.size w w0 → wpSeq P ops (NoPanic Q) σ a w0) : (Code.region id ops true).wp P Q a w :=
  wp_region_seqR (fun w W => Below w.heap.size w W) (fun _ => Below.refl _ _) (fun _ _ _ => bel_step) hm σ hs hl hok (Below.refl _ _).drew h
theorem wpSeq_nil {a : Act} {w : World} (h : Q .normal a w) : wpSeq P ops (NoPanic Q) [] a w := h
theorem wpSeq_take {i : Nat} {o : Oper} {σ : List (Nat × Bool)} {a : Act} {w : World} {v : Value} (hi : ops[i]? = some o) (hw : Region.wanted o (yielded ops a.tmps) = true)
    (hy : ∀ W, Below w.heap.size w W → (execOp a.eval o).run P W = .ok (.value v) W) (h : wpSeq P ops Q σ (a.put o.dst v) w) : wpSeq P ops Q ((i, true) :: σ) a w := ⟨o, v, hi, .inl ⟨hw, hy⟩, h⟩
theorem wpSeq_skip {i : Nat} {o : Oper} {σ : List (Nat × Bool)} {a : Act} {w : World} (hi : ops[i]? = some o) (hw : Region.wanted o (yielded ops a.tmps) = false)
    (h : wpSeq P ops Q σ (a.put o.dst undef) w) : wpSeq P ops Q ((i, true) :: σ) a w := ⟨o, undef, hi, .inr ⟨hw, rfl⟩, h⟩
theorem wpSeq_exec {i : Nat} {o : Oper} {σ : List (Nat × Bool)} {a : Act} {w : World} (hi : ops[i]? = some o) (hw : Region.wanted o (yielded ops a.tmps) = true)
    (h : ∀ K : Act → World → Prop, (∀ a' w', Below w.heap.size w w' → wpSeq P ops Q σ a' w' → K a' w') → o.wp P a w K Q) : wpSeq P ops Q ((i, false) :: σ) a w := wpSeqR_exec hi hw h
theorem wpSeq_none {i : Nat} {o : Oper} {σ : List (Nat × Bool)} {a : Act} {w : World} (hi : ops[i]? = some o) (hw : Region.wanted o (yielded ops a.tmps) = false)
    (h : wpSeq P ops Q σ (a.put o.dst undef) w) : wpSeq P ops Q ((i, false) :: σ) a w := wpSeqR_none (fun _ => Below.refl _ _) hi hw h
end
end Go.Nst
