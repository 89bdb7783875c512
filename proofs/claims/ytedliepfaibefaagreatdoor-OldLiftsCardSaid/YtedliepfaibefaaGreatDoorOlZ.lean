/-
  OldLifts.
-/
import Derived.Test.YtedliepfaibefaaGreatDoorOlY0
import Derived.Test.YtedliepfaibefaaGreatDoorOlY1
import Derived.Test.YtedliepfaibefaaGreatDoorOlY2
namespace Go.Proofs.YtedliepfaibefaaGreatDoor
open Go.RowKit Go.Nst
set_option maxRecDepth 100000
set_option linter.unusedVariables false
set_option linter.unusedSimpArgs false

theorem thirdX_or (x : Ol) : thirdX x = [] ∨ (thirdX x = [evOf x] ∧ evOK x.k x.a x.b x.n x.s x.t [] = true) := by
  unfold thirdX
  cases h : evOK x.k x.a x.b x.n x.s x.t [] with
  | false => exact .inl rfl
  | true => exact .inr ⟨rfl, rfl⟩
theorem oldLifts_walk (v k a b n : Int) (s t : List UInt8) (w : World) (hs : s.length ≤ 9223372036854775807) (ht : t.length ≤ 9223372036854775807) (hN : Nms w) :
    Calls Tryz.prog 4 #[.agg (OC v k a b n s t)] w (RetTrue w) := by
  cases hl : large16 s t with
  | true =>
    have HL := Lib.hid (fun W => large16_any v k a b n s t W hs ht)
    have HV := Lib.hid (fun W h => lives16_any W h)
    have B0 := bel_alloc (Below.refl w.heap.size w) (.cells (OC v k a b n s t) 25)
    rw [hl] at HL
    clear hl
    simp only [OC] at *
    go_enter Tryz.func4, Tryz.ntmps4
    go_wp2_with fail
    (with_reducible refine (HL.out _).mono ?_)
    rintro e w1 ⟨rfl, hb1⟩
    have B1 := bel_step B0 hb1
    have hN1 := hN.below B1
    go_wp2_with fail
    (with_reducible refine (HV.out _ hN1).mono ?_)
    rintro e w2 ⟨rfl, hb2⟩
    go_wp2_with fail
    go_ret
    exact ⟨rfl, bel_step B1 hb2⟩
  | false =>
    obtain ⟨h1, h2⟩ := large16_no hl
    have hok := fun x hx => second_ok ⟨v, k, a, b, n, s, t⟩ x hx
    have hlen := secondO_len ⟨v, k, a, b, n, s, t⟩
    cases hL : secondO ⟨v, k, a, b, n, s, t⟩ with
    | nil =>
      have hM : thirdO ⟨v, k, a, b, n, s, t⟩ = [] := by unfold thirdO; rw [hL]; rfl
      exact lifts_0_0 v k a b n s t w h1 h2 hN hL hM hl
    | cons p l =>
      obtain ⟨hpv, hpo⟩ := hok p (by rw [hL]; exact List.mem_cons_self)
      have fp := olF hpo
      have lp := And.intro fp.s fp.t
      have kp := thirdX_or p
      cases l with
      | nil =>
        have hM : thirdO ⟨v, k, a, b, n, s, t⟩ = thirdX p := by unfold thirdO; rw [hL]; simp
        obtain ⟨pv, pk, pa, pb, pn, ps, pt⟩ := p
        simp only at hpv lp
        subst hpv
        rcases kp with e | ⟨e, ep⟩
        · rw [e] at hM
          exact lifts_1_0 v k a b n s t w h1 h2 hN pk pa pb pn ps pt lp hpo hL hM hl
        · rw [e] at hM
          exact lifts_1_1 v k a b n s t w h1 h2 hN pk pa pb pn ps pt _ _ _ _ _ _ _ lp hpo (by simp; omega) ep hL hM hl
      | cons q l2 =>
        obtain ⟨hqv, hqo⟩ := hok q (by rw [hL]; exact List.mem_cons_of_mem _ List.mem_cons_self)
        have fq := olF hqo
        have lq := And.intro fq.s fq.t
        have kq := thirdX_or q
        cases l2 with
        | nil =>
          have hM : thirdO ⟨v, k, a, b, n, s, t⟩ = thirdX p ++ thirdX q := by unfold thirdO; rw [hL]; simp
          obtain ⟨pv, pk, pa, pb, pn, ps, pt⟩ := p
          obtain ⟨qv, qk, qa, qb, qn, qs, qt⟩ := q
          simp only at hpv lp hqv lq
          subst hpv
          subst hqv
          rcases kp with e | ⟨e, ep⟩ <;> rcases kq with e2 | ⟨e2, eq2⟩
          · rw [e, e2] at hM
            exact lifts_2_0 v k a b n s t w h1 h2 hN pk pa pb pn ps pt qk qa qb qn qs qt lp hpo lq hqo hL hM hl
          · rw [e, e2] at hM
            exact lifts_2_1 v k a b n s t w h1 h2 hN pk pa pb pn ps pt qk qa qb qn qs qt _ _ _ _ _ _ _ lp hpo lq hqo (by simp; omega) eq2 hL hM hl
          · rw [e, e2] at hM
            exact lifts_2_1 v k a b n s t w h1 h2 hN pk pa pb pn ps pt qk qa qb qn qs qt _ _ _ _ _ _ _ lp hpo lq hqo (by simp; omega) ep hL hM hl
          · rw [e, e2] at hM
            exact lifts_2_2 v k a b n s t w h1 h2 hN pk pa pb pn ps pt qk qa qb qn qs qt _ _ _ _ _ _ _ _ _ _ _ _ _ _ lp hpo lq hqo (by simp; omega) ep (by simp; omega) eq2 hL hM hl
        | cons r l3 => rw [hL] at hlen; simp at hlen
end Go.Proofs.YtedliepfaibefaaGreatDoor
