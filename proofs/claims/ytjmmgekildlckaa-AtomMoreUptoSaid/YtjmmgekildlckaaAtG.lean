/-
  The walks of the statements on feeds of the kind Atom (printed by gen_atg.py).
-/
import Derived.Test.YtjmmgekildlckaaAtF
namespace Go.Proofs.Ytjmmgekildlckaa
open Go.ChangeShapes Go.WideShapes Go.ChangeAt Go.Deep
open Go.RowKit Go.Nst
set_option maxRecDepth 100000
set_option linter.unusedVariables false
set_option linter.unusedSimpArgs false

theorem smA_le {n m : Nat} (h : m ≤ n) {e : Elm} (hs : SmE n e) : SmE m e := by
  obtain ⟨d, rfl⟩ : ∃ d, n = m + d := ⟨n - m, by omega⟩
  induction d with
  | zero => exact hs
  | succ d ih => exact ih (by omega) (sm_down hs)
theorem cntL_lenA : ∀ (l : List Elm) (d : Nat) (m : Int), d < 40 → 0 < m → 0 < cntL l d m → (l.length : Int) < m
  | [], d, m, hd, hm, h => by simpa using hm
  | k :: ks, d, m, hd, hm, h => by
    simp only [cntL] at h
    rw [if_pos ⟨hm, hd⟩] at h
    have h1 := cnt_mono k (d + 1) m
    by_cases h2 : 0 < cntE k (d + 1) m
    · have := cntL_lenA ks d _ hd h2 h
      simp only [List.length_cons]
      omega
    · rw [cntL_stop _ _ _ (by omega)] at h
      exact absurd h h2
theorem kids_leA {e : Elm} (h : 0 < cntE e 1 6000) : e.kids.length ≤ 6000 := by
  obtain ⟨nm, ats, tx, l⟩ := e
  simp only [cntE] at h
  have ha := atsum_pos ats
  by_cases h0 : 0 < (6000 : Int) - 1 - (tx.length : Int) - (nm.length : Int) - (ats.length : Int) - atsum ats
  · have := cntL_lenA l 1 _ (by omega) h0 h
    show l.length ≤ 6000
    omega
  · rw [cntL_stop _ _ _ (by omega)] at h
    exact absurd h h0
/-- not too large: the texts are short, the kids not many -/
theorem LargeA_any (e : Elm) (A B : Option Addr) (c d : Nat) (w : World) (S : Nat → Prop) (he : EmF w S e A c B d) :
    Calls Try.prog 4 #[.agg (emV e A e.ats.length c B e.kids.length d)] w fun e' w' => (∃ b, e' = .returned (.bool b) ∧ (b = false → SmE 12 e ∧ e.kids.length ≤ 6000)) ∧ Below w.heap.size w w' := by
  have B0 := bel_alloc (Below.refl w.heap.size w) (.cells (emV e A e.ats.length c B e.kids.length d) 25)
  have HC := Lib.hid (show Calls Try.prog 9 #[.agg (emV e A e.ats.length c B e.kids.length d), .int .i64 1, .int .i64 6000] _ _ from count9_any e A B c d 1 6000 _ S (by omega) (by omega) (by omega) (em_bel he B0))
  have HP : Hid (decide (cntE e 1 6000 ≤ 0) = false → SmE 12 e ∧ e.kids.length ≤ 6000) := Lib.hid (fun h => ⟨cnt_pos 12 e 1 6000 (by omega) (by omega) (Int.not_le.1 (of_decide_eq_false h)), kids_leA (Int.not_le.1 (of_decide_eq_false h))⟩)
  obtain ⟨hc1, hc2⟩ := he.hc
  obtain ⟨hd1, hd2⟩ := he.hd
  clear he
  generalize cntE e 1 6000 = z at *
  simp only [emV] at *
  go_enter Try.func4, Try.ntmps4
  go_wp2_with fail
  (with_reducible refine (HC.out).mono ?_)
  rintro e' w2 ⟨rfl, hb2⟩
  go_wp2_with fail
  go_ret
  exact ⟨⟨_, rfl, HP.out⟩, bel_step B0 hb2⟩
theorem atom_rss {e : Elm} (h : (readA e).isSome = true) : (readD e).isSome = false := by
  unfold readA at h
  by_cases h1 : shortD e.nm = sFeedA
  · unfold readD
    rw [if_neg (by rw [h1]; rintro ⟨_, h2⟩; exact absurd h2 (by decide))]
    rfl
  · rw [if_neg h1] at h
    cases h
theorem entA_good {e : Elm} {x : Ent} (h : entA e = some x) : x.gu ≠ [] := by
  unfold entA at h
  by_cases h0 : guidA e = []
  · rw [if_pos h0] at h; cases h
  · rw [if_neg h0] at h
    have h := Option.some.inj h
    have e1 : x.gu = guidA e := by rw [← h]
    rw [e1]
    exact h0
theorem guA_some (e : Elm) : (((entA e).getD zeroEnt).gu == []) = !(entA e).isSome := by
  cases h : entA e with
  | none => rfl
  | some x =>
    have := entA_good h
    simpa using this
theorem lnkL_len : ∀ l : List Elm, (lnkL l).length ≤ 512
  | [] => by simp [lnkL]
  | k :: r => by
    simp only [lnkL]
    cases hrefD k with
    | none => exact lnkL_len r
    | some x => have := shortT_len x 512 (by omega); show (shortT x 512).length ≤ 512; omega
end Go.Proofs.Ytjmmgekildlckaa
