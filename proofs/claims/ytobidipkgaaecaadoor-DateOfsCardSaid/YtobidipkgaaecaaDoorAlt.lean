/-
  Regions that draw their order where one operation (an allocation) may come up at any call.
-/
import Derived.Test.YtobidipkgaaecaaDoorBas
namespace Go.Nst
open Go.RowKit
section
variable {P : Program} {ops : Array Oper} {Q : Exit → Act → World → Prop} {md : Region.Mode}
/-- the order σ, then k, then τ; k may also come up at each execution of σ -/
def wpAltR (R : World → World → Prop) (P : Program) (ops : Array Oper) (Q : Exit → Act → World → Prop) (k : Nat) (τ : List (Nat × Bool)) : List (Nat × Bool) → Act → World → Prop
  | [], a, w => wpOp P ops Q k (fun a' w' => R w w' ∧ wpSeqR R P ops Q τ a' w') a w
  | (i, true) :: σ, a, w => ∃ o v, ops[i]? = some o ∧ YieldsIf P ops (fun W => R w W) o v a ∧ wpAltR R P ops Q k τ σ (a.put o.dst v) w
  | (i, false) :: σ, a, w => wpOp P ops Q i (fun a' w' => R w w' ∧ wpAltR R P ops Q k τ σ a' w') a w ∧ wpOp P ops Q k (fun a' w' => R w w' ∧ wpSeqR R P ops Q ((i, false) :: σ ++ τ) a' w') a w
def altOK (md : Region.Mode) (ops : Array Oper) (k : Nat) (τ : List (Nat × Bool)) : List (Nat × Bool) → Array Bool → Bool
  | [], listed => Region.ready md ops listed == [k] && seqOK md ops τ (listed.setIfInBounds k true)
  | (i, true) :: σ, listed => Region.free md ops listed i && (Region.ready md ops listed).contains i && altOK md ops k τ σ (listed.setIfInBounds i true)
  | (i, false) :: σ, listed => Region.ready md ops listed == [i, k] && altOK md ops k τ σ (listed.setIfInBounds i true) && seqOK md ops ((i, false) :: σ ++ τ) (listed.setIfInBounds k true)
theorem wpAltR_sound {R : World → World → Prop} (hr : ∀ w, R w w) (ht : ∀ a b c, R a b → R b c → R a c) (hs : Region.noSelect ops = true) (hQ : ∀ c a d v w, Q (.panic c) (Act.put a d v) w → Q (.panic c) a w) (k : Nat) (τ : List (Nat × Bool)) : ∀ (σ : List (Nat × Bool)) (listed : Array Bool) (a : Act) (w : World),
    altOK md ops k τ σ listed = true → wpAltR R P ops Q k τ σ a w → wpAnyH P md ops Q (fun W => R w W) (σ.length + τ.length + 1) listed a w
  | [], listed, a, w, hok, h => by
    simp only [altOK, Bool.and_eq_true, beq_iff_eq] at hok
    rw [List.length_nil, Nat.zero_add]
    refine wpAnyH_all hok.1 (by simp) (fun j hj => ?_)
    obtain rfl : j = k := by simpa using hj
    exact wpOp_mono (fun a' w' h' => ⟨h'.1, wpAnyH_mono (fun W hW => ht _ _ _ h'.1 hW) _ _ _ _ (wpSeqR_sound hr ht hs hQ τ _ a' w' hok.2 h'.2)⟩) h
  | (i, true) :: σ, listed, a, w, hok, h => by
    simp only [altOK, Bool.and_eq_true] at hok
    obtain ⟨o, v, hi, hy, hr'⟩ := h
    rw [List.length_cons, show σ.length + 1 + τ.length + 1 = (σ.length + τ.length + 1) + 1 by omega]
    exact wpAnyH_take hi hs hok.1.1 hok.1.2 (fun c a w => hQ c a o.dst v w) hy (hr w) (wpAltR_sound hr ht hs hQ k τ σ _ _ w hok.2 hr')
  | (i, false) :: σ, listed, a, w, hok, h => by
    simp only [altOK, Bool.and_eq_true, beq_iff_eq] at hok
    rw [List.length_cons, show σ.length + 1 + τ.length + 1 = (σ.length + τ.length + 1) + 1 by omega]
    refine wpAnyH_all hok.1.1 (by simp) (fun j hj => ?_)
    have hj : j = i ∨ j = k := by simpa using hj
    rcases hj with rfl | rfl
    · exact wpOp_mono (fun a' w' h' => ⟨h'.1, wpAnyH_mono (fun W hW => ht _ _ _ h'.1 hW) _ _ _ _ (wpAltR_sound hr ht hs hQ k τ σ _ a' w' hok.1.2 h'.2)⟩) h.1
    · refine wpOp_mono (fun a' w' h' => ⟨h'.1, wpAnyH_mono (fun W hW => ht _ _ _ h'.1 hW) _ _ _ _ ?_⟩) h.2
      have := wpSeqR_sound hr ht hs hQ ((i, false) :: σ ++ τ) _ a' w' hok.2 h'.2
      rw [show ((i, false) :: σ ++ τ).length = σ.length + τ.length + 1 by rw [List.length_append, List.length_cons]; omega] at this
      exact this
theorem wp_region_alt (R : World → World → Prop) (hr : ∀ w, R w w) (ht : ∀ a b c, R a b → R b c → R a c) {id : Nat} {a : Act} {w : World} (hm : P.follows .mixedOrders = true) (k : Nat) (τ σ : List (Nat × Bool)) (hs : Region.noSelect ops = true) (hl : σ.length + τ.length + 1 = ops.size) (hok : altOK .any ops k τ σ (Array.replicate ops.size false) = true)
    (h : wpAltR R P ops (NoPanic Q) k τ σ a w.drew) : (Code.region id ops true).wp P Q a w := by
  refine wp_region_noPanic (wp_region_held (S := fun W => R w.drew W) hm ?_)
  have := wpAltR_sound (md := .any) hr ht hs (fun c a d v w h => h) k τ σ _ a w.drew hok h
  rw [hl] at this
  exact this
theorem wpAltR_take {R : World → World → Prop} {k i : Nat} {o : Oper} {τ σ : List (Nat × Bool)} {a : Act} {w : World} {v : Value} (hi : ops[i]? = some o) (hw : Region.wanted o (yielded ops a.tmps) = true)
    (hy : ∀ W, R w W → (execOp a.eval o).run P W = .ok (.value v) W) (h : wpAltR R P ops Q k τ σ (a.put o.dst v) w) : wpAltR R P ops Q k τ ((i, true) :: σ) a w := ⟨o, v, hi, .inl ⟨hw, hy⟩, h⟩
theorem wpAltR_exec {R : World → World → Prop} {k i : Nat} {o ok : Oper} {τ σ : List (Nat × Bool)} {a : Act} {w : World} (hi : ops[i]? = some o) (hw : Region.wanted o (yielded ops a.tmps) = true) (hk : ops[k]? = some ok) (hwk : Region.wanted ok (yielded ops a.tmps) = true)
    (h : ∀ K : Act → World → Prop, (∀ a' w', R w w' → wpAltR R P ops Q k τ σ a' w' → K a' w') → o.wp P a w K Q)
    (h2 : ∀ K : Act → World → Prop, (∀ a' w', R w w' → wpSeqR R P ops Q ((i, false) :: σ ++ τ) a' w' → K a' w') → ok.wp P a w K Q) : wpAltR R P ops Q k τ ((i, false) :: σ) a w := by
  have g1 := h (fun a' w' => R w w' ∧ wpAltR R P ops Q k τ σ a' w') (fun a' w' h1 h2 => ⟨h1, h2⟩)
  have g2 := h2 (fun a' w' => R w w' ∧ wpSeqR R P ops Q ((i, false) :: σ ++ τ) a' w') (fun a' w' h1 h2 => ⟨h1, h2⟩)
  unfold wpAltR wpOp
  simp only [hi, hw, hk, hwk, if_true]
  exact ⟨.inl g1, .inl g2⟩
theorem wpAltR_last {R : World → World → Prop} {k : Nat} {ok : Oper} {τ : List (Nat × Bool)} {a : Act} {w : World} (hk : ops[k]? = some ok) (hwk : Region.wanted ok (yielded ops a.tmps) = true)
    (h2 : ∀ K : Act → World → Prop, (∀ a' w', R w w' → wpSeqR R P ops Q τ a' w' → K a' w') → ok.wp P a w K Q) : wpAltR R P ops Q k τ [] a w := by
  have g2 := h2 (fun a' w' => R w w' ∧ wpSeqR R P ops Q τ a' w') (fun a' w' h1 h2 => ⟨h1, h2⟩)
  unfold wpAltR wpOp
  simp only [hk, hwk, if_true]
  exact .inl g2
end
end Go.Nst
