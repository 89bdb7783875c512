/-
  utf.Count, the reference's Runes and Right, the law's same.
-/
import Derived.Test.YtleachcokgjocabUtfC
import Derived.BigQuiet
namespace Go.Proofs.Ytleachcokgjocab
open Go.RowKit Go.Nst
set_option maxRecDepth 100000
set_option linter.unusedVariables false

theorem runesI_len (l : List UInt8) : (runesI l).length = (runesL l).length := by simp [runesI]
theorem runesL_le (l : List UInt8) : (runesL l).length ≤ l.length := by
  have : ∀ (k : Nat) (l : List UInt8), (runesF k l).length ≤ l.length := by
    intro k
    induction k with
    | zero => intro l; simp [runesF]
    | succ k ih =>
      intro l
      cases l with
      | nil => simp [runesF]
      | cons c t =>
        have hw := firstL_width (c :: t) (by simp)
        have := ih ((c :: t).drop (firstL (c :: t)).2)
        simp only [runesF, List.length_cons]
        rw [List.length_drop] at this
        simp only [List.length_cons] at this
        omega
  exact this _ l
theorem count_round {l : List UInt8} {pos k tot : Nat} (h : tot = k + (runesL (l.drop pos)).length) (hp : pos < l.length) : tot = (k + 1) + (runesL (l.drop (pos + (firstL (l.drop pos)).2))).length := by
  rw [h, runesL_step _ (drop_ne hp), List.drop_drop]
  simp
  omega
theorem count_end {l : List UInt8} {pos k tot : Nat} (h : tot = k + (runesL (l.drop pos)).length) (hp : ¬ pos < l.length) : tot = k := by
  rw [h, List.drop_of_length_le (by omega)]
  simp [runesL_nil]

/-- a string's length -/
def strLen : Value → Nat
  | .string s => s.size
  | _ => 0

theorem bl_from (s : ByteArray) (i : Nat) : bl (s.extract i s.size) = (bl s).drop i := by
  unfold bl
  rw [ByteArray.data_extract]
  simp
  rw [List.take_of_length_le]
  rw [List.length_drop, Array.length_toList]
  exact Nat.le_refl _
theorem runes_round0 {l : List UInt8} {acc tot : List Int} (h : tot = acc ++ runesI l) (hp : l ≠ []) : tot = (acc ++ [((firstL l).1 : Int)]) ++ runesI (l.drop (firstL l).2) := by
  rw [h, runesI_step hp]
  simp
theorem runes_end0 {s : ByteArray} {acc tot : List Int} (h : tot = acc ++ runesI (bl s)) (hp : ¬ 0 < s.size) : tot = acc := by
  have : bl s = [] := List.eq_nil_of_length_eq_zero (by rw [bl_len]; omega)
  rw [h, this]
  simp [runesI, runesL_nil]
theorem bl_ne {s : ByteArray} (h : 0 < s.size) : bl s ≠ [] := by
  intro e
  have := bl_len s
  rw [e] at this
  simp at this
  omega
theorem size_from (s : ByteArray) (i : Nat) : (s.extract i s.size).size = s.size - i := by rw [← bl_len, bl_from, List.length_drop, bl_len]

end Go.Proofs.Ytleachcokgjocab
