/-
  Texts as lists of bytes.
-/
import Derived.Test.YtleachcokgjocabUtfA
namespace Go.Proofs.Ytleachcokgjocab
open Go.RowKit Go.Nst
set_option maxRecDepth 100000
set_option linter.unusedVariables false
set_option linter.unusedSimpArgs false

theorem bl_of (l : List UInt8) : bl ⟨l.toArray⟩ = l := by simp [bl]
theorem size_of (l : List UInt8) : (ByteArray.mk l.toArray).size = l.length := by simp [ByteArray.size]
theorem bl_upto (s : ByteArray) (k : Nat) : bl (s.extract 0 k) = (bl s).take k := by
  unfold bl
  rw [ByteArray.data_extract]
  simp
theorem str_upto (s : ByteArray) (k : Nat) : s.extract 0 k = ⟨((bl s).take k).toArray⟩ := by rw [← bl_upto, bl_mk]
theorem bl_mid (s : ByteArray) (i k : Nat) : bl (s.extract i k) = ((bl s).drop i).take (k - i) := by
  unfold bl
  rw [ByteArray.data_extract]
  simp [List.drop_take]
theorem str_mid (s : ByteArray) (i k : Nat) : s.extract i k = ⟨(((bl s).drop i).take (k - i)).toArray⟩ := by rw [← bl_mid, bl_mk]
theorem bl_toList (s : ByteArray) : s.toList = bl s := ByteArray.toList_eq s
theorem bl_append (a b : ByteArray) : bl (a ++ b) = bl a ++ bl b := by unfold bl; simp
theorem size_append (a b : ByteArray) : (a ++ b).size = a.size + b.size := by rw [← bl_len, bl_append, List.length_append, bl_len, bl_len]
/-- the bytes of a list, by place -/
theorem get_of (l : List UInt8) (k : Nat) (h : k < (ByteArray.mk l.toArray).size) (u : UInt8) (hu : l[k]? = some u) : (ByteArray.mk l.toArray)[k] = u := by
  have := bl_get ⟨l.toArray⟩ k h
  rw [bl_of, hu] at this
  injection this with this
  exact this.symm
end Go.Proofs.Ytleachcokgjocab
