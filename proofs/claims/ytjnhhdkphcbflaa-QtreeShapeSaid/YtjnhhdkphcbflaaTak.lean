/-
  Regions that draw their order: a call that leaves the world alone may be taken first, as a load may.
-/
import Derived.Test.YtjnhhdkphcbflaaBas
namespace Go.Nst
open Go.RowKit
set_option linter.unusedVariables false

section
variable {P : Program} {ops : Array Oper} {Q : Exit → Act → World → Prop} {md : Region.Mode} {S : World → Prop}

/-- in every world that meets S, o leaves v behind and nothing else: it reads, or it calls what leaves the world alone -/
def TakesIf (P : Program) (ops : Array Oper) (S : World → Prop) (o : Oper) (v : Value) (a : Act) : Prop :=
  (Region.wanted o (yielded ops a.tmps) = true ∧ ((∀ w, S w → (execOp a.eval o).run P w = .ok (.value v) w) ∨
    ∃ f args, ∀ w, S w → (execOp a.eval o).run P w = .ok (.enter f args) w ∧ Calls P f args w fun e w' => e = .returned v ∧ w = w')) ∨
  (Region.wanted o (yielded ops a.tmps) = false ∧ v = undef)
theorem TakesIf.now {i : Nat} {o : Oper} {v : Value} {a : Act} (hi : ops[i]? = some o) (hy : TakesIf P ops S o v a)
    {K : Act → World → Prop} {w : World} (hS : S w) (h : K (a.put o.dst v) w) : wpOp P ops Q i K a w := by
  unfold Go.wpOp
  simp only [hi]
  rcases hy with ⟨hw, hv | ⟨f, args, hv⟩⟩ | ⟨hw, rfl⟩
  · simp only [hw, if_true, Oper.wp, hv w hS, Oper.upon]
    exact .inl h
  · simp only [hw, if_true, Oper.wp, (hv w hS).1, Oper.upon]
    refine .inl ((hv w hS).2.mono ?_)
    rintro e w' ⟨rfl, rfl⟩
    exact h
  · simp only [hw, Bool.false_eq_true, if_false]
    exact h
theorem TakesIf.same {o : Oper} {v : Value} {a a' : Act} (hy : TakesIf P ops S o v a) (he : execOp a'.eval o = execOp a.eval o)
    (hw : Region.wanted o (yielded ops a'.tmps) = Region.wanted o (yielded ops a.tmps)) : TakesIf P ops S o v a' := by
  unfold TakesIf at *
  rw [he, hw]
  exact hy
theorem takes_past {j : Nat} {oi oj : Oper} {v : Value} (hj : ops[j]? = some oj) (hap : oi.apart ops oj = true)
    (hsi : ∀ cs b, oi.op ≠ .select cs b) (hsj : ∀ cs b, oj.op ≠ .select cs b)
    (hQ : ∀ c a w, Q (.panic c) (a.put oi.dst v) w → Q (.panic c) a w) {K : Act → World → Prop} {a : Act} {w : World}
    (hy : TakesIf P ops S oi v a) (h : wpOp P ops Q j K (a.put oi.dst v) w) :
    wpOp P ops Q j (fun a' w' => TakesIf P ops S oi v a' ∧ K (a'.put oi.dst v) w') a w := by
  obtain ⟨h1, h2, h3⟩ := Oper.apart_spec hap
  have put_ : ∀ u, TakesIf P ops S oi v (a.put oj.dst u) := fun u => hy.same (execOp_put oi hsi a oj.dst u h3) (wanted_put oi a oj.dst u h3)
  unfold wpOp at *
  simp only [hj] at *
  rw [wanted_put oj a oi.dst v h1] at h
  cases hw : Region.wanted oj (yielded ops a.tmps) with
  | false =>
    simp only [hw] at h ⊢
    exact ⟨put_ _, by rw [← Act.put_comm a v undef h2]; exact h⟩
  | true =>
    simp only [hw, if_true] at h ⊢
    rcases h with h | ⟨ha, hl⟩
    · left
      unfold Oper.wp at *
      rw [execOp_put oj hsj a oi.dst v h1] at h
      cases hr : (execOp a.eval oj).run P w with
      | ok n w' =>
        rw [hr] at h
        cases n <;> simp only [Oper.upon] at h ⊢
        case value u => exact ⟨put_ u, by rw [← Act.put_comm a v u h2]; exact h⟩
        case skip => exact ⟨put_ _, by rw [← Act.put_comm a v undef h2]; exact h⟩
        case defer d =>
          have hd : TakesIf P ops S oi v { a with defers := d :: a.defers } := hy.same rfl rfl
          refine ⟨hd.same (execOp_put oi hsi _ oj.dst undef h3) (wanted_put oi _ oj.dst undef h3), ?_⟩
          rw [← Act.put_comm _ v undef h2, ← Act.put_defers]
          exact h
        case enter f args =>
          refine Calls.mono h fun e w2 he => ?_
          cases e with
          | returned u => exact ⟨put_ u, by rw [← Act.put_comm a v u h2]; exact he⟩
          | panicked c => exact hQ _ _ _ he
          | outgrown => exact he
        case row row args => exact Rows.mono h fun u w2 he => ⟨put_ u, by rw [← Act.put_comm a v u h2]; exact he⟩
      | halt x w' =>
        rw [hr] at h
        cases x <;> simp only [Oper.upon] at h ⊢
        case panic u => exact hQ _ _ _ h
    · right
      exact ⟨by unfold Oper.asks at *; rw [execOp_put oj hsj a oi.dst v h1] at ha; exact ha, hl⟩
theorem takes_first {i : Nat} {oi : Oper} {v : Value} (hi : ops[i]? = some oi) (hsel : ∀ (j : Nat) (o : Oper) cs b, ops[j]? = some o → o.op ≠ .select cs b)
    (hQ : ∀ c a w, Q (.panic c) (a.put oi.dst v) w → Q (.panic c) a w) : ∀ (fuel : Nat) (listed : Array Bool) (a : Act) (w : World),
      (∀ j oj, ops[j]? = some oj → j ≠ i → listed.getD j true = false → (∀ e ∈ oj.after, Region.binds md e = true → e.on ≠ i) → oi.apart ops oj = true) →
      i ∈ Region.ready md ops listed → TakesIf P ops S oi v a → S w →
      wpAnyH P md ops Q S fuel (listed.setIfInBounds i true) (a.put oi.dst v) w → wpAnyH P md ops Q S (fuel + 1) listed a w := by
  intro fuel
  induction fuel with
  | zero =>
    intro listed a w _ hr hy hS H
    constructor
    · intro h0
      rw [h0] at hr
      cases hr
    · intro j hj
      by_cases e : j = i
      · subst e
        exact hy.now hi hS ⟨hS, H⟩
      · have hm := ready_mono hj e
        rw [H.1] at hm
        cases hm
  | succ fuel ih =>
    intro listed a w hfree hr hy hS H
    constructor
    · intro h0
      rw [h0] at hr
      cases hr
    · intro j hj
      by_cases e : j = i
      · subst e
        exact hy.now hi hS ⟨hS, H⟩
      · have h1 := H.2 j (ready_mono hj e)
        obtain ⟨hjun, oj, hoj, hall⟩ := mem_ready.1 hj
        have hun := (mem_ready.1 hr).1
        have hnot : ∀ e ∈ oj.after, Region.binds md e = true → e.on ≠ i := by
          intro x hx hb hq
          have h2 := hall x hx hb
          rw [hq] at h2
          rcases Nat.lt_or_ge i listed.size with h' | h'
          · simp [h'] at hun h2
            rw [hun] at h2
            cases h2
          · simp [Array.getElem?_eq_none h'] at h2
        have h2 := takes_past hoj (hfree j oj hoj e hjun hnot) (fun cs b => hsel i oi cs b hi) (fun cs b => hsel j oj cs b hoj) hQ hy h1
        refine wpOp_mono (fun a' w' h3 => ⟨h3.2.1, ih (listed.setIfInBounds j true) a' w' ?_ (ready_mono hr (Ne.symm e)) h3.1 h3.2.1 ?_⟩) h2
        · intro k ok hk hki hlu hno
          refine hfree k ok hk hki ?_ hno
          by_cases hjk : j = k
          · subst hjk
            exact hjun
          · rw [getD_set_ne true hjk] at hlu
            exact hlu
        · rw [Array.setIfInBounds_comm _ _ e]
          exact h3.2.2
theorem takes_now {i : Nat} {oi : Oper} {v : Value} {fuel : Nat} {listed : Array Bool} {a : Act} {w : World} (hi : ops[i]? = some oi)
    (hs : Region.noSelect ops = true) (hf : Region.free md ops listed i = true) (hr : (Region.ready md ops listed).contains i = true)
    (hQ : ∀ c a w, Q (.panic c) (a.put oi.dst v) w → Q (.panic c) a w) (hy : TakesIf P ops S oi v a) (hS : S w)
    (h : wpAnyH P md ops Q S fuel (listed.setIfInBounds i true) (a.put oi.dst v) w) : wpAnyH P md ops Q S (fuel + 1) listed a w :=
  takes_first hi (Region.noSelect_spec hs) hQ fuel listed a w (Region.free_spec hi hf) (by simpa using hr) hy hS h

/-- the operations in the order of σ; (i, true): operation i reads, or calls what leaves the world alone -/
def wpSeqT (R : World → World → Prop) (P : Program) (ops : Array Oper) (Q : Exit → Act → World → Prop) : List (Nat × Bool) → Act → World → Prop
  | [], a, w => Q .normal a w
  | (i, true) :: σ, a, w => ∃ o v, ops[i]? = some o ∧ TakesIf P ops (fun W => R w W) o v a ∧ wpSeqT R P ops Q σ (a.put o.dst v) w
  | (i, false) :: σ, a, w => wpOp P ops Q i (fun a' w' => R w w' ∧ wpSeqT R P ops Q σ a' w') a w
theorem wpSeqT_sound {R : World → World → Prop} (hr : ∀ w, R w w) (ht : ∀ a b c, R a b → R b c → R a c) (hs : Region.noSelect ops = true) (hQ : ∀ c a d v w, Q (.panic c) (Act.put a d v) w → Q (.panic c) a w) : ∀ (σ : List (Nat × Bool)) (listed : Array Bool) (a : Act) (w : World),
    seqOK md ops σ listed = true → wpSeqT R P ops Q σ a w → wpAnyH P md ops Q (fun W => R w W) σ.length listed a w
  | [], listed, a, w, hok, h => by
    simp only [seqOK, beq_iff_eq] at hok
    exact wpAnyH_done hok h _
  | (i, true) :: σ, listed, a, w, hok, h => by
    simp only [seqOK, Bool.and_eq_true] at hok
    obtain ⟨o, v, hi, hy, hr'⟩ := h
    exact takes_now hi hs hok.1.1 hok.1.2 (fun c a w => hQ c a o.dst v w) hy (hr w) (wpSeqT_sound hr ht hs hQ σ _ _ w hok.2 hr')
  | (i, false) :: σ, listed, a, w, hok, h => by
    simp only [seqOK, Bool.and_eq_true, beq_iff_eq] at hok
    refine wpAnyH_all hok.1 (by simp) (fun j hj => ?_)
    obtain rfl : j = i := by simpa using hj
    exact wpOp_mono (fun a' w' h' => ⟨h'.1, wpAnyH_mono (fun W hW => ht _ _ _ h'.1 hW) _ _ _ _ (wpSeqT_sound hr ht hs hQ σ _ a' w' hok.2 h'.2)⟩) h
theorem wp_region_seqT {id : Nat} {a : Act} {w : World} (hm : P.follows .mixedOrders = true) (σ : List (Nat × Bool)) (hs : Region.noSelect ops = true) (hl : σ.length = ops.size) (hok : seqOK .any ops σ (Array.replicate ops.size false) = true)
    (h : ∀ w0, Below w.heap.size w w0 → wpSeqT (fun w W => Below w.heap.size w W) P ops (NoPanic Q) σ a w0) : (Code.region id ops true).wp P Q a w := by
  refine wp_region_noPanic (wp_region_held (S := fun W => Below w.drew.heap.size w.drew W) hm ?_)
  have := wpSeqT_sound (R := fun w W => Below w.heap.size w W) (md := .any) (fun _ => Below.refl _ _) (fun _ _ _ => bel_step) hs (fun c a d v w h => h) σ _ a w.drew hok (h _ (Below.refl _ _).drew)
  rw [hl] at this
  exact this
theorem wp_region_seqTB {id : Nat} {a : Act} {w : World} (B : Nat) (hm : P.follows .mixedOrders = true) (σ : List (Nat × Bool)) (hs : Region.noSelect ops = true) (hl : σ.length = ops.size) (hok : seqOK .any ops σ (Array.replicate ops.size false) = true)
    (h : ∀ w0, Below w.heap.size w w0 → wpSeqT (fun w W => Below B w W) P ops (NoPanic Q) σ a w0) : (Code.region id ops true).wp P Q a w := by
  refine wp_region_noPanic (wp_region_held (S := fun W => Below B w.drew W) hm ?_)
  have := wpSeqT_sound (R := fun w W => Below B w W) (md := .any) (fun _ => Below.refl _ _) (fun _ _ _ => Below.trans) hs (fun c a d v w h => h) σ _ a w.drew hok (h _ (Below.refl _ _).drew)
  rw [hl] at this
  exact this
abbrev Bel (w W : World) : Prop := Below w.heap.size w W
theorem wpSeqT_nil {R : World → World → Prop} {a : Act} {w : World} (h : Q .normal a w) : wpSeqT R P ops (NoPanic Q) [] a w := h
theorem wpSeqT_take {R : World → World → Prop} {i : Nat} {o : Oper} {σ : List (Nat × Bool)} {a : Act} {w : World} {v : Value} (hi : ops[i]? = some o) (hw : Region.wanted o (yielded ops a.tmps) = true)
    (hy : ∀ W, R w W → (execOp a.eval o).run P W = .ok (.value v) W) (h : wpSeqT R P ops Q σ (a.put o.dst v) w) : wpSeqT R P ops Q ((i, true) :: σ) a w := ⟨o, v, hi, .inl ⟨hw, .inl hy⟩, h⟩
theorem wpSeqT_call {R : World → World → Prop} {i : Nat} {o : Oper} {σ : List (Nat × Bool)} {a : Act} {w : World} {v : Value} {f : FuncId} {args : Array Value} (hi : ops[i]? = some o) (hw : Region.wanted o (yielded ops a.tmps) = true)
    (hc : ∀ W, R w W → Calls P f args W fun e w' => e = .returned v ∧ W = w') (he : ∀ W, R w W → (execOp a.eval o).run P W = .ok (.enter f args) W) (h : wpSeqT R P ops Q σ (a.put o.dst v) w) : wpSeqT R P ops Q ((i, true) :: σ) a w := ⟨o, v, hi, .inl ⟨hw, .inr ⟨f, args, fun W hW => ⟨he W hW, hc W hW⟩⟩⟩, h⟩
theorem wpSeqT_skip {R : World → World → Prop} {i : Nat} {o : Oper} {σ : List (Nat × Bool)} {a : Act} {w : World} (hi : ops[i]? = some o) (hw : Region.wanted o (yielded ops a.tmps) = false)
    (h : wpSeqT R P ops Q σ (a.put o.dst undef) w) : wpSeqT R P ops Q ((i, true) :: σ) a w := ⟨o, undef, hi, .inr ⟨hw, rfl⟩, h⟩
theorem wpSeqT_exec {R : World → World → Prop} {i : Nat} {o : Oper} {σ : List (Nat × Bool)} {a : Act} {w : World} (hi : ops[i]? = some o) (hw : Region.wanted o (yielded ops a.tmps) = true)
    (h : ∀ K : Act → World → Prop, (∀ a' w', R w w' → wpSeqT R P ops Q σ a' w' → K a' w') → o.wp P a w K Q) : wpSeqT R P ops Q ((i, false) :: σ) a w := by
  have := h (fun a' w' => R w w' ∧ wpSeqT R P ops Q σ a' w') (fun a' w' h1 h2 => ⟨h1, h2⟩)
  unfold wpSeqT wpOp
  simp only [hi, hw, if_true]
  exact .inl this
end
end Go.Nst
