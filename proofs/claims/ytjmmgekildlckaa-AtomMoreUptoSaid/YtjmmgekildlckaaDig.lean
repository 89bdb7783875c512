/-
  Digits and what they count (plain).
  A digit is its rune.
-/
import Derived.WalkKit
import Derived.Test.YtjmmgekildlckaaUt2
section
namespace Go.Proofs.Ytjmmgekildlckaa
set_option maxRecDepth 100000
set_option linter.unusedVariables false
set_option linter.unusedSimpArgs false

def digB (c : UInt8) : Bool := decide (48 ≤ c.toNat) && decide (c.toNat ≤ 57)
def numL (l : List UInt8) : Int := l.foldl (fun n c => 10 * n + ((c.toNat : Int) - 48)) 0
theorem numL_bd : ∀ (l : List UInt8) (n : Int), 0 ≤ n → l.all digB = true → 0 ≤ l.foldl (fun n c => 10 * n + ((c.toNat : Int) - 48)) n ∧ l.foldl (fun n c => 10 * n + ((c.toNat : Int) - 48)) n < (n + 1) * 10 ^ l.length
  | [], n, h0, _ => by simp; omega
  | c :: t, n, h0, h => by
    simp only [List.all_cons, Bool.and_eq_true] at h
    have hd := h.1
    unfold digB at hd
    simp at hd
    have h1 := numL_bd t (10 * n + ((c.toNat : Int) - 48)) (by omega) h.2
    simp only [List.foldl_cons, List.length_cons]
    refine ⟨h1.1, Int.lt_of_lt_of_le h1.2 ?_⟩
    rw [Int.pow_succ, Int.mul_comm (10 ^ t.length) 10, ← Int.mul_assoc]
    exact Int.mul_le_mul_of_nonneg_right (by omega) (Int.pow_nonneg (by omega))
theorem numL_in {l : List UInt8} (h : l.all digB = true) : 0 ≤ numL l ∧ numL l < 10 ^ l.length := by
  have := numL_bd l 0 (by omega) h
  simpa [numL] using this
theorem numL_snoc (l : List UInt8) (c : UInt8) : numL (l ++ [c]) = 10 * numL l + ((c.toNat : Int) - 48) := by simp [numL]
end Go.Proofs.Ytjmmgekildlckaa
end
section
namespace Go.Proofs.Ytjmmgekildlckaa
open Go.RowKit Go.Nst
set_option maxRecDepth 100000
set_option linter.unusedVariables false
set_option linter.unusedSimpArgs false

theorem first_dig {l : List UInt8} {u : UInt8} {t : List UInt8} (e : l = u :: t) : (digB u = true ∧ firstL l = (u.toNat, 1)) ∨ (digB u = false ∧ ¬ (48 ≤ (firstL l).1 ∧ (firstL l).1 ≤ 57)) := by
  subst e
  have hu := u.toNat_lt
  by_cases h : u.toNat < 128
  · have hf : firstL (u :: t) = (u.toNat, 1) := by simp only [firstL]; rw [if_pos h]
    cases hd : digB u with
    | true => exact .inl ⟨rfl, hf⟩
    | false =>
      refine .inr ⟨rfl, ?_⟩
      rw [hf]
      unfold digB at hd
      simp at hd
      simp only
      omega
  · refine .inr ⟨by unfold digB; simp; omega, ?_⟩
    have : 128 ≤ (firstL (u :: t)).1 := by
      simp only [firstL]
      rw [if_neg h]
      (repeat' split) <;> (first | omega | (simp at *; omega))
    omega
theorem take_snocD {l : List UInt8} {pos : Nat} {u : UInt8} {t : List UInt8} (h : l.drop pos = u :: t) : l.take (pos + 1) = l.take pos ++ [u] := by
  have hg : l[pos]? = some u := by
    have := congrArg (·[0]?) h
    simpa [List.getElem?_drop] using this
  rw [List.take_add_one, hg]
  rfl
end Go.Proofs.Ytjmmgekildlckaa
end
