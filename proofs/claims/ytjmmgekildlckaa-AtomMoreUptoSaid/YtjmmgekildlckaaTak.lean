/-
  Regions that draw their order where one operation (an allocation) may come up at any call.
  Regions that draw their order: a call that leaves the world alone may be taken first, as a load may.
  Regions that draw their order, whose orders part.
-/
import Derived.Test.YtjmmgekildlckaaBas
section
namespace Go.Nst
open Go.RowKit
section
variable {P : Program} {ops : Array Oper} {Q : Exit → Act → World → Prop} {md : Region.Mode}
/-- the order σ, then k, then τ; k may also come up at each execution of σ -/
def wpAltR (R : World → World → Prop) (P : Program) (ops : Array Oper) (Q : Exit → Act → World → Prop) (k : Nat) (τ : List (Nat × Bool)) : List (Nat × Bool) → Act → World → Prop
  | [], a, w => wpOp P ops Q k (fun a' w' => R w w' ∧ wpSeqR R P ops Q τ a' w') a w
  | (i, true) :: σ, a, w => ∃ o v, ops[i]? = some o ∧ YieldsIf P ops (fun W => R w W) o v a ∧ wpAltR R P ops Q k τ σ (a.put o.dst v) w
  | (i, false) :: σ, a, w => wpOp P ops Q i (fun a' w' => R w w' ∧ wpAltR R P ops Q k τ σ a' w') a w ∧ wpOp P ops Q k (fun a' w' => R w w' ∧ wpSeqR R P ops Q ((i, false) :: σ ++ τ) a' w') a w
def altOK (md : Region.Mode) (ops : Array Oper) (k : Nat) (τ : List (Nat × Bool)) : List (Nat × Bool) → Array Bool → Bool
  | [], listed => Region.ready md ops listed == [k] && seqOK md ops τ (listed.setIfInBounds k true)
  | (i, true) :: σ, listed => Region.free md ops listed i && (Region.ready md ops listed).contains i && altOK md ops k τ σ (listed.setIfInBounds i true)
  | (i, false) :: σ, listed => Region.ready md ops listed == [i, k] && altOK md ops k τ σ (listed.setIfInBounds i true) && seqOK md ops ((i, false) :: σ ++ τ) (listed.setIfInBounds k true)
theorem wpAltR_sound {R : World → World → Prop} (hr : ∀ w, R w w) (ht : ∀ a b c, R a b → R b c → R a c) (hs : Region.noSelect ops = true) (hQ : ∀ c a d v w, Q (.panic c) (Act.put a d v) w → Q (.panic c) a w) (k : Nat) (τ : List (Nat × Bool)) : ∀ (σ : List (Nat × Bool)) (listed : Array Bool) (a : Act) (w : World),
    altOK md ops k τ σ listed = true → wpAltR R P ops Q k τ σ a w → wpAnyH P md ops Q (fun W => R w W) (σ.length + τ.length + 1) listed a w
  | [], listed, a, w, hok, h => by
    simp only [altOK, Bool.and_eq_true, beq_iff_eq] at hok
    rw [List.length_nil, Nat.zero_add]
    refine wpAnyH_all hok.1 (by simp) (fun j hj => ?_)
    obtain rfl : j = k := by simpa using hj
    exact wpOp_mono (fun a' w' h' => ⟨h'.1, wpAnyH_mono (fun W hW => ht _ _ _ h'.1 hW) _ _ _ _ (wpSeqR_sound hr ht hs hQ τ _ a' w' hok.2 h'.2)⟩) h
  | (i, true) :: σ, listed, a, w, hok, h => by
    simp only [altOK, Bool.and_eq_true] at hok
    obtain ⟨o, v, hi, hy, hr'⟩ := h
    rw [List.length_cons, show σ.length + 1 + τ.length + 1 = (σ.length + τ.length + 1) + 1 by omega]
    exact wpAnyH_take hi hs hok.1.1 hok.1.2 (fun c a w => hQ c a o.dst v w) hy (hr w) (wpAltR_sound hr ht hs hQ k τ σ _ _ w hok.2 hr')
  | (i, false) :: σ, listed, a, w, hok, h => by
    simp only [altOK, Bool.and_eq_true, beq_iff_eq] at hok
    rw [List.length_cons, show σ.length + 1 + τ.length + 1 = (σ.length + τ.length + 1) + 1 by omega]
    refine wpAnyH_all hok.1.1 (by simp) (fun j hj => ?_)
    have hj : j = i ∨ j = k := by simpa using hj
    rcases hj with rfl | rfl
    · exact wpOp_mono (fun a' w' h' => ⟨h'.1, wpAnyH_mono (fun W hW => ht _ _ _ h'.1 hW) _ _ _ _ (wpAltR_sound hr ht hs hQ k τ σ _ a' w' hok.1.2 h'.2)⟩) h.1
    · refine wpOp_mono (fun a' w' h' => ⟨h'.1, wpAnyH_mono (fun W hW => ht _ _ _ h'.1 hW) _ _ _ _ ?_⟩) h.2
      have := wpSeqR_sound hr ht hs hQ ((i, false) :: σ ++ τ) _ a' w' hok.2 h'.2
      rw [show ((i, false) :: σ ++ τ).length = σ.length + τ.length + 1 by rw [List.length_append, List.length_cons]; omega] at this
      exact this
theorem wp_region_alt (R : World → World → Prop) (hr : ∀ w, R w w) (ht : ∀ a b c, R a b → R b c → R a c) {id : Nat} {a : Act} {w : World} (hm : P.follows .mixedOrders = true) (k : Nat) (τ σ : List (Nat × Bool)) (hs : Region.noSelect ops = true) (hl : σ.length + τ.length + 1 = ops.size) (hok : altOK .any ops k τ σ (Array.replicate ops.size false) = true)
    (h : wpAltR R P ops (NoPanic Q) k τ σ a w.drew) : (Code.region id ops true).wp P Q a w := by
  refine wp_region_noPanic (wp_region_held (S := fun W => R w.drew W) hm ?_)
  have := wpAltR_sound (md := .any) hr ht hs (fun c a d v w h => h) k τ σ _ a w.drew hok h
  rw [hl] at this
  exact this
theorem wpAltR_take {R : World → World → Prop} {k i : Nat} {o : Oper} {τ σ : List (Nat × Bool)} {a : Act} {w : World} {v : Value} (hi : ops[i]? = some o) (hw : Region.wanted o (yielded ops a.tmps) = true)
    (hy : ∀ W, R w W → (execOp a.eval o).run P W = .ok (.value v) W) (h : wpAltR R P ops Q k τ σ (a.put o.dst v) w) : wpAltR R P ops Q k τ ((i, true) :: σ) a w := ⟨o, v, hi, .inl ⟨hw, hy⟩, h⟩
theorem wpAltR_exec {R : World → World → Prop} {k i : Nat} {o ok : Oper} {τ σ : List (Nat × Bool)} {a : Act} {w : World} (hi : ops[i]? = some o) (hw : Region.wanted o (yielded ops a.tmps) = true) (hk : ops[k]? = some ok) (hwk : Region.wanted ok (yielded ops a.tmps) = true)
    (h : ∀ K : Act → World → Prop, (∀ a' w', R w w' → wpAltR R P ops Q k τ σ a' w' → K a' w') → o.wp P a w K Q)
    (h2 : ∀ K : Act → World → Prop, (∀ a' w', R w w' → wpSeqR R P ops Q ((i, false) :: σ ++ τ) a' w' → K a' w') → ok.wp P a w K Q) : wpAltR R P ops Q k τ ((i, false) :: σ) a w := by
  have g1 := h (fun a' w' => R w w' ∧ wpAltR R P ops Q k τ σ a' w') (fun a' w' h1 h2 => ⟨h1, h2⟩)
  have g2 := h2 (fun a' w' => R w w' ∧ wpSeqR R P ops Q ((i, false) :: σ ++ τ) a' w') (fun a' w' h1 h2 => ⟨h1, h2⟩)
  unfold wpAltR wpOp
  simp only [hi, hw, hk, hwk, if_true]
  exact ⟨.inl g1, .inl g2⟩
theorem wpAltR_last {R : World → World → Prop} {k : Nat} {ok : Oper} {τ : List (Nat × Bool)} {a : Act} {w : World} (hk : ops[k]? = some ok) (hwk : Region.wanted ok (yielded ops a.tmps) = true)
    (h2 : ∀ K : Act → World → Prop, (∀ a' w', R w w' → wpSeqR R P ops Q τ a' w' → K a' w') → ok.wp P a w K Q) : wpAltR R P ops Q k τ [] a w := by
  have g2 := h2 (fun a' w' => R w w' ∧ wpSeqR R P ops Q τ a' w') (fun a' w' h1 h2 => ⟨h1, h2⟩)
  unfold wpAltR wpOp
  simp only [hk, hwk, if_true]
  exact .inl g2
end
end Go.Nst
end
section
namespace Go.Nst
open Go.RowKit
set_option linter.unusedVariables false

section
variable {P : Program} {ops : Array Oper} {Q : Exit → Act → World → Prop} {md : Region.Mode} {S : World → Prop}

/-- in every world that meets S, o leaves v behind and nothing else: it reads, or it calls what leaves the world alone -/
def TakesIf (P : Program) (ops : Array Oper) (S : World → Prop) (o : Oper) (v : Value) (a : Act) : Prop :=
  (Region.wanted o (yielded ops a.tmps) = true ∧ ((∀ w, S w → (execOp a.eval o).run P w = .ok (.value v) w) ∨
    ∃ f args, ∀ w, S w → (execOp a.eval o).run P w = .ok (.enter f args) w ∧ Calls P f args w fun e w' => e = .returned v ∧ w = w')) ∨
  (Region.wanted o (yielded ops a.tmps) = false ∧ v = undef)
theorem TakesIf.now {i : Nat} {o : Oper} {v : Value} {a : Act} (hi : ops[i]? = some o) (hy : TakesIf P ops S o v a)
    {K : Act → World → Prop} {w : World} (hS : S w) (h : K (a.put o.dst v) w) : wpOp P ops Q i K a w := by
  unfold Go.wpOp
  simp only [hi]
  rcases hy with ⟨hw, hv | ⟨f, args, hv⟩⟩ | ⟨hw, rfl⟩
  · simp only [hw, if_true, Oper.wp, hv w hS, Oper.upon]
    exact .inl h
  · simp only [hw, if_true, Oper.wp, (hv w hS).1, Oper.upon]
    refine .inl ((hv w hS).2.mono ?_)
    rintro e w' ⟨rfl, rfl⟩
    exact h
  · simp only [hw, Bool.false_eq_true, if_false]
    exact h
theorem TakesIf.same {o : Oper} {v : Value} {a a' : Act} (hy : TakesIf P ops S o v a) (he : execOp a'.eval o = execOp a.eval o)
    (hw : Region.wanted o (yielded ops a'.tmps) = Region.wanted o (yielded ops a.tmps)) : TakesIf P ops S o v a' := by
  unfold TakesIf at *
  rw [he, hw]
  exact hy
theorem takes_past {j : Nat} {oi oj : Oper} {v : Value} (hj : ops[j]? = some oj) (hap : oi.apart ops oj = true)
    (hsi : ∀ cs b, oi.op ≠ .select cs b) (hsj : ∀ cs b, oj.op ≠ .select cs b)
    (hQ : ∀ c a w, Q (.panic c) (a.put oi.dst v) w → Q (.panic c) a w) {K : Act → World → Prop} {a : Act} {w : World}
    (hy : TakesIf P ops S oi v a) (h : wpOp P ops Q j K (a.put oi.dst v) w) :
    wpOp P ops Q j (fun a' w' => TakesIf P ops S oi v a' ∧ K (a'.put oi.dst v) w') a w := by
  obtain ⟨h1, h2, h3⟩ := Oper.apart_spec hap
  have put_ : ∀ u, TakesIf P ops S oi v (a.put oj.dst u) := fun u => hy.same (execOp_put oi hsi a oj.dst u h3) (wanted_put oi a oj.dst u h3)
  unfold wpOp at *
  simp only [hj] at *
  rw [wanted_put oj a oi.dst v h1] at h
  cases hw : Region.wanted oj (yielded ops a.tmps) with
  | false =>
    simp only [hw] at h ⊢
    exact ⟨put_ _, by rw [← Act.put_comm a v undef h2]; exact h⟩
  | true =>
    simp only [hw, if_true] at h ⊢
    rcases h with h | ⟨ha, hl⟩
    · left
      unfold Oper.wp at *
      rw [execOp_put oj hsj a oi.dst v h1] at h
      cases hr : (execOp a.eval oj).run P w with
      | ok n w' =>
        rw [hr] at h
        cases n <;> simp only [Oper.upon] at h ⊢
        case value u => exact ⟨put_ u, by rw [← Act.put_comm a v u h2]; exact h⟩
        case skip => exact ⟨put_ _, by rw [← Act.put_comm a v undef h2]; exact h⟩
        case defer d =>
          have hd : TakesIf P ops S oi v { a with defers := d :: a.defers } := hy.same rfl rfl
          refine ⟨hd.same (execOp_put oi hsi _ oj.dst undef h3) (wanted_put oi _ oj.dst undef h3), ?_⟩
          rw [← Act.put_comm _ v undef h2, ← Act.put_defers]
          exact h
        case enter f args =>
          refine Calls.mono h fun e w2 he => ?_
          cases e with
          | returned u => exact ⟨put_ u, by rw [← Act.put_comm a v u h2]; exact he⟩
          | panicked c => exact hQ _ _ _ he
          | outgrown => exact he
        case row row args => exact Rows.mono h fun u w2 he => ⟨put_ u, by rw [← Act.put_comm a v u h2]; exact he⟩
      | halt x w' =>
        rw [hr] at h
        cases x <;> simp only [Oper.upon] at h ⊢
        case panic u => exact hQ _ _ _ h
    · right
      exact ⟨by unfold Oper.asks at *; rw [execOp_put oj hsj a oi.dst v h1] at ha; exact ha, hl⟩
theorem takes_first {i : Nat} {oi : Oper} {v : Value} (hi : ops[i]? = some oi) (hsel : ∀ (j : Nat) (o : Oper) cs b, ops[j]? = some o → o.op ≠ .select cs b)
    (hQ : ∀ c a w, Q (.panic c) (a.put oi.dst v) w → Q (.panic c) a w) : ∀ (fuel : Nat) (listed : Array Bool) (a : Act) (w : World),
      (∀ j oj, ops[j]? = some oj → j ≠ i → listed.getD j true = false → (∀ e ∈ oj.after, Region.binds md e = true → e.on ≠ i) → oi.apart ops oj = true) →
      i ∈ Region.ready md ops listed → TakesIf P ops S oi v a → S w →
      wpAnyH P md ops Q S fuel (listed.setIfInBounds i true) (a.put oi.dst v) w → wpAnyH P md ops Q S (fuel + 1) listed a w := by
  intro fuel
  induction fuel with
  | zero =>
    intro listed a w _ hr hy hS H
    constructor
    · intro h0
      rw [h0] at hr
      cases hr
    · intro j hj
      by_cases e : j = i
      · subst e
        exact hy.now hi hS ⟨hS, H⟩
      · have hm := ready_mono hj e
        rw [H.1] at hm
        cases hm
  | succ fuel ih =>
    intro listed a w hfree hr hy hS H
    constructor
    · intro h0
      rw [h0] at hr
      cases hr
    · intro j hj
      by_cases e : j = i
      · subst e
        exact hy.now hi hS ⟨hS, H⟩
      · have h1 := H.2 j (ready_mono hj e)
        obtain ⟨hjun, oj, hoj, hall⟩ := mem_ready.1 hj
        have hun := (mem_ready.1 hr).1
        have hnot : ∀ e ∈ oj.after, Region.binds md e = true → e.on ≠ i := by
          intro x hx hb hq
          have h2 := hall x hx hb
          rw [hq] at h2
          rcases Nat.lt_or_ge i listed.size with h' | h'
          · simp [h'] at hun h2
            rw [hun] at h2
            cases h2
          · simp [Array.getElem?_eq_none h'] at h2
        have h2 := takes_past hoj (hfree j oj hoj e hjun hnot) (fun cs b => hsel i oi cs b hi) (fun cs b => hsel j oj cs b hoj) hQ hy h1
        refine wpOp_mono (fun a' w' h3 => ⟨h3.2.1, ih (listed.setIfInBounds j true) a' w' ?_ (ready_mono hr (Ne.symm e)) h3.1 h3.2.1 ?_⟩) h2
        · intro k ok hk hki hlu hno
          refine hfree k ok hk hki ?_ hno
          by_cases hjk : j = k
          · subst hjk
            exact hjun
          · rw [getD_set_ne true hjk] at hlu
            exact hlu
        · rw [Array.setIfInBounds_comm _ _ e]
          exact h3.2.2
theorem takes_now {i : Nat} {oi : Oper} {v : Value} {fuel : Nat} {listed : Array Bool} {a : Act} {w : World} (hi : ops[i]? = some oi)
    (hs : Region.noSelect ops = true) (hf : Region.free md ops listed i = true) (hr : (Region.ready md ops listed).contains i = true)
    (hQ : ∀ c a w, Q (.panic c) (a.put oi.dst v) w → Q (.panic c) a w) (hy : TakesIf P ops S oi v a) (hS : S w)
    (h : wpAnyH P md ops Q S fuel (listed.setIfInBounds i true) (a.put oi.dst v) w) : wpAnyH P md ops Q S (fuel + 1) listed a w :=
  takes_first hi (Region.noSelect_spec hs) hQ fuel listed a w (Region.free_spec hi hf) (by simpa using hr) hy hS h

/-- the operations in the order of σ; (i, true): operation i reads, or calls what leaves the world alone -/
def wpSeqT (R : World → World → Prop) (P : Program) (ops : Array Oper) (Q : Exit → Act → World → Prop) : List (Nat × Bool) → Act → World → Prop
  | [], a, w => Q .normal a w
  | (i, true) :: σ, a, w => ∃ o v, ops[i]? = some o ∧ TakesIf P ops (fun W => R w W) o v a ∧ wpSeqT R P ops Q σ (a.put o.dst v) w
  | (i, false) :: σ, a, w => wpOp P ops Q i (fun a' w' => R w w' ∧ wpSeqT R P ops Q σ a' w') a w
theorem wpSeqT_sound {R : World → World → Prop} (hr : ∀ w, R w w) (ht : ∀ a b c, R a b → R b c → R a c) (hs : Region.noSelect ops = true) (hQ : ∀ c a d v w, Q (.panic c) (Act.put a d v) w → Q (.panic c) a w) : ∀ (σ : List (Nat × Bool)) (listed : Array Bool) (a : Act) (w : World),
    seqOK md ops σ listed = true → wpSeqT R P ops Q σ a w → wpAnyH P md ops Q (fun W => R w W) σ.length listed a w
  | [], listed, a, w, hok, h => by
    simp only [seqOK, beq_iff_eq] at hok
    exact wpAnyH_done hok h _
  | (i, true) :: σ, listed, a, w, hok, h => by
    simp only [seqOK, Bool.and_eq_true] at hok
    obtain ⟨o, v, hi, hy, hr'⟩ := h
    exact takes_now hi hs hok.1.1 hok.1.2 (fun c a w => hQ c a o.dst v w) hy (hr w) (wpSeqT_sound hr ht hs hQ σ _ _ w hok.2 hr')
  | (i, false) :: σ, listed, a, w, hok, h => by
    simp only [seqOK, Bool.and_eq_true, beq_iff_eq] at hok
    refine wpAnyH_all hok.1 (by simp) (fun j hj => ?_)
    obtain rfl : j = i := by simpa using hj
    exact wpOp_mono (fun a' w' h' => ⟨h'.1, wpAnyH_mono (fun W hW => ht _ _ _ h'.1 hW) _ _ _ _ (wpSeqT_sound hr ht hs hQ σ _ a' w' hok.2 h'.2)⟩) h
theorem wp_region_seqT {id : Nat} {a : Act} {w : World} (hm : P.follows .mixedOrders = true) (σ : List (Nat × Bool)) (hs : Region.noSelect ops = true) (hl : σ.length = ops.size) (hok : seqOK .any ops σ (Array.replicate ops.size false) = true)
    (h : ∀ w0, Below w.heap.size w w0 → wpSeqT (fun w W => Below w.heap.size w W) P ops (NoPanic Q) σ a w0) : (Code.region id ops true).wp P Q a w := by
  refine wp_region_noPanic (wp_region_held (S := fun W => Below w.drew.heap.size w.drew W) hm ?_)
  have := wpSeqT_sound (R := fun w W => Below w.heap.size w W) (md := .any) (fun _ => Below.refl _ _) (fun _ _ _ => bel_step) hs (fun c a d v w h => h) σ _ a w.drew hok (h _ (Below.refl _ _).drew)
  rw [hl] at this
  exact this
theorem wp_region_seqTB {id : Nat} {a : Act} {w : World} (B : Nat) (hm : P.follows .mixedOrders = true) (σ : List (Nat × Bool)) (hs : Region.noSelect ops = true) (hl : σ.length = ops.size) (hok : seqOK .any ops σ (Array.replicate ops.size false) = true)
    (h : ∀ w0, Below w.heap.size w w0 → wpSeqT (fun w W => Below B w W) P ops (NoPanic Q) σ a w0) : (Code.region id ops true).wp P Q a w := by
  refine wp_region_noPanic (wp_region_held (S := fun W => Below B w.drew W) hm ?_)
  have := wpSeqT_sound (R := fun w W => Below B w W) (md := .any) (fun _ => Below.refl _ _) (fun _ _ _ => Below.trans) hs (fun c a d v w h => h) σ _ a w.drew hok (h _ (Below.refl _ _).drew)
  rw [hl] at this
  exact this
abbrev Bel (w W : World) : Prop := Below w.heap.size w W
theorem wpSeqT_nil {R : World → World → Prop} {a : Act} {w : World} (h : Q .normal a w) : wpSeqT R P ops (NoPanic Q) [] a w := h
theorem wpSeqT_take {R : World → World → Prop} {i : Nat} {o : Oper} {σ : List (Nat × Bool)} {a : Act} {w : World} {v : Value} (hi : ops[i]? = some o) (hw : Region.wanted o (yielded ops a.tmps) = true)
    (hy : ∀ W, R w W → (execOp a.eval o).run P W = .ok (.value v) W) (h : wpSeqT R P ops Q σ (a.put o.dst v) w) : wpSeqT R P ops Q ((i, true) :: σ) a w := ⟨o, v, hi, .inl ⟨hw, .inl hy⟩, h⟩
theorem wpSeqT_call {R : World → World → Prop} {i : Nat} {o : Oper} {σ : List (Nat × Bool)} {a : Act} {w : World} {v : Value} {f : FuncId} {args : Array Value} (hi : ops[i]? = some o) (hw : Region.wanted o (yielded ops a.tmps) = true)
    (hc : ∀ W, R w W → Calls P f args W fun e w' => e = .returned v ∧ W = w') (he : ∀ W, R w W → (execOp a.eval o).run P W = .ok (.enter f args) W) (h : wpSeqT R P ops Q σ (a.put o.dst v) w) : wpSeqT R P ops Q ((i, true) :: σ) a w := ⟨o, v, hi, .inl ⟨hw, .inr ⟨f, args, fun W hW => ⟨he W hW, hc W hW⟩⟩⟩, h⟩
theorem wpSeqT_skip {R : World → World → Prop} {i : Nat} {o : Oper} {σ : List (Nat × Bool)} {a : Act} {w : World} (hi : ops[i]? = some o) (hw : Region.wanted o (yielded ops a.tmps) = false)
    (h : wpSeqT R P ops Q σ (a.put o.dst undef) w) : wpSeqT R P ops Q ((i, true) :: σ) a w := ⟨o, undef, hi, .inr ⟨hw, rfl⟩, h⟩
theorem wpSeqT_exec {R : World → World → Prop} {i : Nat} {o : Oper} {σ : List (Nat × Bool)} {a : Act} {w : World} (hi : ops[i]? = some o) (hw : Region.wanted o (yielded ops a.tmps) = true)
    (h : ∀ K : Act → World → Prop, (∀ a' w', R w w' → wpSeqT R P ops Q σ a' w' → K a' w') → o.wp P a w K Q) : wpSeqT R P ops Q ((i, false) :: σ) a w := by
  have := h (fun a' w' => R w w' ∧ wpSeqT R P ops Q σ a' w') (fun a' w' h1 h2 => ⟨h1, h2⟩)
  unfold wpSeqT wpOp
  simp only [hi, hw, if_true]
  exact .inl this
end
end Go.Nst
end
section
namespace Go.Nst
open Go.RowKit
set_option linter.unusedVariables false

section
variable {P : Program} {ops : Array Oper} {Q : Exit → Act → World → Prop} {md : Region.Mode} {S : World → Prop}
/-! ### orders that part -/
/-- which operation comes up: it is taken first; it alone may come up; one of two may -/
inductive Ord where
  | nil
  | take (i : Nat) (t : Ord)
  | exec (i : Nat) (t : Ord)
  | two (i : Nat) (t : Ord) (k : Nat) (u : Ord)
def Ord.len : Ord → Nat
  | .nil => 0
  | .take _ t => t.len + 1
  | .exec _ t => t.len + 1
  | .two _ t _ u => max t.len u.len + 1
def wpOrd (R : World → World → Prop) (P : Program) (ops : Array Oper) (Q : Exit → Act → World → Prop) : Ord → Act → World → Prop
  | .nil, a, w => Q .normal a w
  | .take i t, a, w => ∃ o v, ops[i]? = some o ∧ TakesIf P ops (fun W => R w W) o v a ∧ wpOrd R P ops Q t (a.put o.dst v) w
  | .exec i t, a, w => wpOp P ops Q i (fun a' w' => R w w' ∧ wpOrd R P ops Q t a' w') a w
  | .two i t k u, a, w => wpOp P ops Q i (fun a' w' => R w w' ∧ wpOrd R P ops Q t a' w') a w ∧ wpOp P ops Q k (fun a' w' => R w w' ∧ wpOrd R P ops Q u a' w') a w
def ordOK (md : Region.Mode) (ops : Array Oper) : Ord → Array Bool → Bool
  | .nil, listed => Region.ready md ops listed == []
  | .take i t, listed => Region.free md ops listed i && (Region.ready md ops listed).contains i && ordOK md ops t (listed.setIfInBounds i true)
  | .exec i t, listed => Region.ready md ops listed == [i] && ordOK md ops t (listed.setIfInBounds i true)
  | .two i t k u, listed => Region.ready md ops listed == [i, k] && ordOK md ops t (listed.setIfInBounds i true) && ordOK md ops u (listed.setIfInBounds k true)
theorem wpOrd_sound {R : World → World → Prop} (hr : ∀ w, R w w) (ht : ∀ a b c, R a b → R b c → R a c) (hs : Region.noSelect ops = true) (hQ : ∀ c a d v w, Q (.panic c) (Act.put a d v) w → Q (.panic c) a w) : ∀ (t : Ord) (fuel : Nat) (listed : Array Bool) (a : Act) (w : World),
    t.len ≤ fuel → ordOK md ops t listed = true → wpOrd R P ops Q t a w → wpAnyH P md ops Q (fun W => R w W) fuel listed a w
  | .nil, fuel, listed, a, w, _, hok, h => by
    simp only [ordOK, beq_iff_eq] at hok
    exact wpAnyH_done hok h _
  | .take i t, 0, listed, a, w, hf, _, _ => by simp [Ord.len] at hf
  | .exec i t, 0, listed, a, w, hf, _, _ => by simp [Ord.len] at hf
  | .two i t k u, 0, listed, a, w, hf, _, _ => by simp [Ord.len] at hf
  | .take i t, fuel + 1, listed, a, w, hf, hok, h => by
    simp only [ordOK, Bool.and_eq_true] at hok
    obtain ⟨o, v, hi, hy, hr'⟩ := h
    exact takes_now hi hs hok.1.1 hok.1.2 (fun c a w => hQ c a o.dst v w) hy (hr w) (wpOrd_sound hr ht hs hQ t fuel _ _ w (by simp only [Ord.len] at hf; omega) hok.2 hr')
  | .exec i t, fuel + 1, listed, a, w, hf, hok, h => by
    simp only [ordOK, Bool.and_eq_true, beq_iff_eq] at hok
    refine wpAnyH_all hok.1 (by simp) (fun j hj => ?_)
    obtain rfl : j = i := by simpa using hj
    exact wpOp_mono (fun a' w' h' => ⟨h'.1, wpAnyH_mono (fun W hW => ht _ _ _ h'.1 hW) _ _ _ _ (wpOrd_sound hr ht hs hQ t fuel _ a' w' (by simp only [Ord.len] at hf; omega) hok.2 h'.2)⟩) h
  | .two i t k u, fuel + 1, listed, a, w, hf, hok, h => by
    simp only [ordOK, Bool.and_eq_true, beq_iff_eq] at hok
    refine wpAnyH_all hok.1.1 (by simp) (fun j hj => ?_)
    rcases (by simpa using hj : j = i ∨ j = k) with rfl | rfl
    · exact wpOp_mono (fun a' w' h' => ⟨h'.1, wpAnyH_mono (fun W hW => ht _ _ _ h'.1 hW) _ _ _ _ (wpOrd_sound hr ht hs hQ t fuel _ a' w' (by simp only [Ord.len] at hf; omega) hok.1.2 h'.2)⟩) h.1
    · exact wpOp_mono (fun a' w' h' => ⟨h'.1, wpAnyH_mono (fun W hW => ht _ _ _ h'.1 hW) _ _ _ _ (wpOrd_sound hr ht hs hQ u fuel _ a' w' (by simp only [Ord.len] at hf; omega) hok.2 h'.2)⟩) h.2
theorem wp_region_ord {id : Nat} {a : Act} {w : World} (B : Nat) (hm : P.follows .mixedOrders = true) (t : Ord) (hs : Region.noSelect ops = true) (hl : Nat.ble t.len ops.size = true) (hok : ordOK .any ops t (Array.replicate ops.size false) = true)
    (h : ∀ w0, Below w.heap.size w w0 → w0.heap.size = w.heap.size → wpOrd (fun w W => Below B w W) P ops (NoPanic Q) t a w0) : (Code.region id ops true).wp P Q a w := by
  refine wp_region_noPanic (wp_region_held (S := fun W => Below B w.drew W) hm ?_)
  exact wpOrd_sound (R := fun w W => Below B w W) (md := .any) (fun _ => Below.refl _ _) (fun _ _ _ => Below.trans) hs (fun c a d v w h => h) t _ _ a w.drew (Nat.le_of_ble_eq_true hl) hok (h _ (Below.refl _ _).drew rfl)
theorem wp_region_ordR (R : World → World → Prop) (hr : ∀ w, R w w) (ht : ∀ a b c, R a b → R b c → R a c) {id : Nat} {a : Act} {w : World} (hm : P.follows .mixedOrders = true) (t : Ord) (hs : Region.noSelect ops = true) (hl : Nat.ble t.len ops.size = true) (hok : ordOK .any ops t (Array.replicate ops.size false) = true)
    (h : wpOrd R P ops (NoPanic Q) t a w.drew) : (Code.region id ops true).wp P Q a w := by
  refine wp_region_noPanic (wp_region_held (S := fun W => R w.drew W) hm ?_)
  exact wpOrd_sound (md := .any) hr ht hs (fun c a d v w h => h) t _ _ a w.drew (Nat.le_of_ble_eq_true hl) hok h
theorem wpOrd_nil {R : World → World → Prop} {a : Act} {w : World} (h : Q .normal a w) : wpOrd R P ops (NoPanic Q) .nil a w := h
theorem wpOrd_take {R : World → World → Prop} {i : Nat} {o : Oper} {t : Ord} {a : Act} {w : World} {v : Value} (hi : ops[i]? = some o) (hw : Region.wanted o (yielded ops a.tmps) = true)
    (hy : ∀ W, R w W → (execOp a.eval o).run P W = .ok (.value v) W) (h : wpOrd R P ops Q t (a.put o.dst v) w) : wpOrd R P ops Q (.take i t) a w := ⟨o, v, hi, .inl ⟨hw, .inl hy⟩, h⟩
theorem wpOrd_call {R : World → World → Prop} {i : Nat} {o : Oper} {t : Ord} {a : Act} {w : World} {v : Value} {f : FuncId} {args : Array Value} (hi : ops[i]? = some o) (hw : Region.wanted o (yielded ops a.tmps) = true)
    (hc : ∀ W, R w W → Calls P f args W fun e w' => e = .returned v ∧ W = w') (he : ∀ W, R w W → (execOp a.eval o).run P W = .ok (.enter f args) W) (h : wpOrd R P ops Q t (a.put o.dst v) w) : wpOrd R P ops Q (.take i t) a w := ⟨o, v, hi, .inl ⟨hw, .inr ⟨f, args, fun W hW => ⟨he W hW, hc W hW⟩⟩⟩, h⟩
theorem wpOrd_skip {R : World → World → Prop} {i : Nat} {o : Oper} {t : Ord} {a : Act} {w : World} (hi : ops[i]? = some o) (hw : Region.wanted o (yielded ops a.tmps) = false)
    (h : wpOrd R P ops Q t (a.put o.dst undef) w) : wpOrd R P ops Q (.take i t) a w := ⟨o, undef, hi, .inr ⟨hw, rfl⟩, h⟩
theorem wpOrd_exec {R : World → World → Prop} {i : Nat} {o : Oper} {t : Ord} {a : Act} {w : World} (hi : ops[i]? = some o) (hw : Region.wanted o (yielded ops a.tmps) = true)
    (h : ∀ K : Act → World → Prop, (∀ a' w', R w w' → wpOrd R P ops Q t a' w' → K a' w') → o.wp P a w K Q) : wpOrd R P ops Q (.exec i t) a w := by
  have := h (fun a' w' => R w w' ∧ wpOrd R P ops Q t a' w') (fun a' w' h1 h2 => ⟨h1, h2⟩)
  unfold wpOrd wpOp
  simp only [hi, hw, if_true]
  exact .inl this
theorem wpOrd_none {R : World → World → Prop} (hr : ∀ w, R w w) {i : Nat} {o : Oper} {t : Ord} {a : Act} {w : World} (hi : ops[i]? = some o) (hw : Region.wanted o (yielded ops a.tmps) = false)
    (h : wpOrd R P ops Q t (a.put o.dst undef) w) : wpOrd R P ops Q (.exec i t) a w := by
  unfold wpOrd wpOp
  simp only [hi, hw]
  exact ⟨hr _, h⟩
theorem wpOrd_two {R : World → World → Prop} {i k : Nat} {t u : Ord} {a : Act} {w : World} (h1 : wpOrd R P ops Q (.exec i t) a w) (h2 : wpOrd R P ops Q (.exec k u) a w) : wpOrd R P ops Q (.two i t k u) a w := ⟨h1, h2⟩
end
/-! ### old blocks stay, and new ones too, if their cells are not of the type T -/
def Kep (B : Nat) (T : TypeId) (w W : World) : Prop := Below B w W ∧ ∀ (i : Nat) (cs : Array Value) (t : TypeId) (fr : Nat × Nat), w.heap[i]? = some (Obj.cells cs t fr) → t ≠ T → W.heap[i]? = some (Obj.cells cs t fr)
theorem Kep.refl (B : Nat) (T : TypeId) (w : World) : Kep B T w w := ⟨Below.refl _ _, fun _ _ _ _ h _ => h⟩
theorem Kep.trans {B : Nat} {T : TypeId} (a b c : World) (h : Kep B T a b) (k : Kep B T b c) : Kep B T a c := ⟨h.1.trans k.1, fun i cs t fr hh ht => k.2 i cs t fr (h.2 i cs t fr hh ht) ht⟩
theorem Kep.blk {B : Nat} {T : TypeId} {a b : World} (h : Kep B T a b) {g : Nat} {t : TypeId} {cs : Array Value} (hg : Blk a g t cs) (ht : t ≠ T) : Blk b g t cs := h.2 g cs t (0, 0) hg ht
theorem Kep.alloc {B : Nat} {T : TypeId} {w : World} (hB : B ≤ w.heap.size) (o : Obj) : Kep B T w (w.alloc o) :=
  ⟨(Below.refl _ _).alloc hB o, fun i cs t fr hh _ => (Below.heap_alloc w o i (Array.getElem?_eq_some_iff.1 hh).1).trans hh⟩
theorem Kep.set {B : Nat} {T : TypeId} {w : World} {g : Nat} {cs : Array Value} (hD : Blk w g T cs) (hB : B ≤ g) (i : Nat) (v : Value) : Kep B T w (w.setCell ⟨g, i, none⟩ v) :=
  ⟨(Below.refl _ _).setCell (p := ⟨g, i, none⟩) hB v, fun j cs' t fr hh ht => by
    have hne : j ≠ g := by
      rintro rfl
      rw [hD] at hh
      injection hh with hh
      injection hh with h1 h2 h3
      exact ht h2.symm
    exact (Below.heap_setCell w ⟨g, i, none⟩ v j hne).trans hh⟩
theorem Kep.put6 {B : Nat} {T : TypeId} {w : World} {g : Nat} {cs : Array Value} (hD : Blk w g T cs) (hB : B ≤ g) (v0 v1 v2 v3 v4 v5 : Value) : Kep B T w ((((((w.setCell ⟨g, 0, none⟩ v0).setCell ⟨g, 1, none⟩ v1).setCell ⟨g, 2, none⟩ v2).setCell ⟨g, 3, none⟩ v3).setCell ⟨g, 4, none⟩ v4).setCell ⟨g, 5, none⟩ v5) := by
  have h0 := hD.set_ 0 v0
  have h1 := h0.set_ 1 v1
  have h2 := h1.set_ 2 v2
  have h3 := h2.set_ 3 v3
  have h4 := h3.set_ 4 v4
  exact Kep.trans _ _ _ (Kep.trans _ _ _ (Kep.trans _ _ _ (Kep.trans _ _ _ (Kep.trans _ _ _ (Kep.set hD hB 0 v0) (Kep.set h0 hB 1 v1)) (Kep.set h1 hB 2 v2)) (Kep.set h2 hB 3 v3)) (Kep.set h3 hB 4 v4)) (Kep.set h4 hB 5 v5)
end Go.Nst
end
