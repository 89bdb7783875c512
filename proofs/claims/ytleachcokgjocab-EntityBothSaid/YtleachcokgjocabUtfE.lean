/-
  Right, the reference's Right, the law's same.
-/
import Derived.Test.YtleachcokgjocabUtfD
import Derived.Test.YtleachcokgjocabShelf
namespace Go.Proofs.Ytleachcokgjocab
open Go.RowKit Go.Nst
set_option maxRecDepth 100000
set_option linter.unusedVariables false

theorem pre_first (t : List UInt8) : firstL (239 :: 191 :: 189 :: t) = (65533, 3) := rfl
theorem first_three_bad (l : List UInt8) (h : (firstL l).1 = 65533) (h2 : (firstL l).2 ≠ 1) : ∃ t, l = 239 :: 191 :: 189 :: t := by
  cases l with
  | nil => exact absurd rfl h2
  | cons c t =>
    have hc := c.toNat_lt
    by_cases a1 : c.toNat < 128
    · simp [firstL, a1] at h2
    by_cases a5 : c.toNat < 192 ∨ 248 ≤ c.toNat
    · rw [first_else c t (by omega) a5] at h2
      exact absurd rfl h2
    have key : ∀ (least n r : Nat) (z : Option Nat), seenT least n z = (65533, r) → r ≠ 1 → z = some 65533 ∧ least ≤ 65533 := by
      intro least n r z hz hr
      cases z with
      | none => simp [seenT] at hz; exact absurd hz.symm hr
      | some y =>
        simp only [seenT] at hz
        split at hz
        · rename_i hh
          simp at hz hh
          exact ⟨by rw [hz.1], by omega⟩
        · simp at hz; exact absurd hz.symm hr
    have e0 : firstL (c :: t) = (65533, (firstL (c :: t)).2) := by rw [← h]
    by_cases a2 : c.toNat < 224
    · rw [first_two c t (by omega) a2] at e0 h2
      split at e0
      · rename_i hh; rw [if_pos hh] at h2; exact absurd rfl h2
      · rename_i hh
        rw [if_neg hh] at h2
        obtain ⟨hz, _⟩ := key _ _ _ _ e0 h2
        have := accT_lt _ _ _ hz
        have hl : (t.take 1).length ≤ 1 := by simp; omega
        have hp : 64 ^ (t.take 1).length ≤ 64 ^ 1 := Nat.pow_le_pow_right (by omega) hl
        have : (c.toNat - 192 + 1) * 64 ^ (t.take 1).length ≤ 32 * 64 ^ 1 := Nat.mul_le_mul (by omega) hp
        omega
    by_cases a3 : c.toNat < 240
    · rw [first_three c t (by omega) a3] at e0 h2
      split at e0
      · rename_i hh; rw [if_pos hh] at h2; exact absurd rfl h2
      · rename_i hh
        rw [if_neg hh] at h2
        obtain ⟨hz, _⟩ := key _ _ _ _ e0 h2
        match t, hh with
        | [], hh => simp at hh
        | [d], hh => simp at hh
        | d :: e :: t, _ =>
          have hd := d.toNat_lt
          have he := e.toNat_lt
          simp only [List.take, accT] at hz
          split at hz
          · rename_i t1
            split at hz
            · rename_i t2
              injection hz with hz
              simp [tailB] at t1 t2
              have q1 : c.toNat = 239 := by omega
              have q2 : d.toNat = 191 := by omega
              have q3 : e.toNat = 189 := by omega
              refine ⟨t, ?_⟩
              rw [show c = 239 from UInt8.toNat_inj.1 q1, show d = 191 from UInt8.toNat_inj.1 q2, show e = 189 from UInt8.toNat_inj.1 q3]
            · cases hz
          · cases hz
    · rw [first_four c t (by omega) (by omega)] at e0 h2
      split at e0
      · rename_i hh; rw [if_pos hh] at h2; exact absurd rfl h2
      · rename_i hh
        rw [if_neg hh] at h2
        obtain ⟨_, hb⟩ := key _ _ _ _ e0 h2
        omega
theorem first_bad (l : List UInt8) (h : (firstL l).1 = 65533) : Lib.hasPrefix l [239, 191, 189] = !((firstL l).2 == 1) := by
  by_cases h2 : (firstL l).2 = 1
  · rw [h2, show (!((1 : Nat) == 1)) = false from rfl, Bool.eq_false_iff]
    intro hp
    simp only [Lib.hasPrefix, List.isPrefixOf_iff_prefix] at hp
    obtain ⟨t, rfl⟩ := hp
    have := pre_first t
    simp only [List.cons_append, List.nil_append] at h2
    rw [this] at h2
    cases h2
  · obtain ⟨t, rfl⟩ := first_three_bad l h h2
    rw [pre_first]
    rfl

theorem take_same {l l2 : List Int} {k : Nat} {z : Int} (h : l.take k = l2.take k) (h1 : l[k]? = some z) (h2 : l2[k]? = some z) : l.take (k + 1) = l2.take (k + 1) := by
  rw [List.take_add_one, List.take_add_one, h, h1, h2]
theorem take_other {l l2 : List Int} {k : Nat} {z z2 : Int} (h1 : l[k]? = some z) (h2 : l2[k]? = some z2) (hne : ¬ z = z2) : (l == l2) = false := by
  rw [Bool.eq_false_iff]
  intro e
  rw [beq_iff_eq] at e
  subst e
  rw [h1] at h2
  injection h2 with h2
  exact hne h2
theorem take_all {l l2 : List Int} {k n : Nat} (h : l.take k = l2.take k) (hk : n ≤ k) (e1 : l.length = n) (e2 : l2.length = n) : (l == l2) = true := by
  rw [List.take_of_length_le (by omega), List.take_of_length_le (by omega)] at h
  rw [beq_iff_eq]
  exact h
theorem drewN_drewN (w : World) (a b : Nat) : (w.drewN a).drewN b = w.drewN (a + b) := by
  simp [World.drewN, Nat.add_assoc]

end Go.Proofs.Ytleachcokgjocab
