/-
  Dates of any kind: Any.
  Dates shown: digits.
  strings.Join of three words.
  Dates shown: Show (printed by gen_dtk.py).
  Dates: lives.
-/
import Derived.Test.YtjmmgekildlckaaDtU
section
namespace Go.Proofs.Ytjmmgekildlckaa
open Go.RowKit Go.Nst
set_option maxRecDepth 100000
set_option linter.unusedVariables false
set_option linter.unusedSimpArgs false

end Go.Proofs.Ytjmmgekildlckaa
end
section
namespace Go.Proofs.Ytjmmgekildlckaa
open Go.RowKit Go.Nst
set_option maxRecDepth 100000
set_option linter.unusedVariables false
set_option linter.unusedSimpArgs false

theorem digL_cons : ∀ (z : Nat) (n : Int), digL (z + 1) n = UInt8.ofNat (48 + (n / 10 ^ z % 10).toNat) :: digL z n
  | 0, n => by simp [digL]
  | z + 1, n => by
    have ih := digL_cons z (n / 10)
    rw [digL, ih]
    rw [Int.ediv_ediv_of_nonneg (by omega), show (10 : Int) * 10 ^ z = 10 ^ (z + 1) by rw [Int.pow_succ, Int.mul_comm]]
    rw [digL]
    rfl
theorem st_set (k : Nat) (d : UInt8) (L : List UInt8) : (List.replicate (k + 1) (0 : UInt8) ++ L).set k d = List.replicate k 0 ++ d :: L := by
  rw [List.replicate_succ', List.append_assoc, List.set_append_right _ _ (by simp)]
  simp
end Go.Proofs.Ytjmmgekildlckaa
end
section
namespace Go.Proofs.Ytjmmgekildlckaa
open Go.RowKit Go.Nst
set_option maxRecDepth 100000
set_option linter.unusedVariables false
set_option linter.unusedSimpArgs false

end Go.Proofs.Ytjmmgekildlckaa
end
section
namespace Go.Proofs.Ytjmmgekildlckaa
open Go.RowKit Go.Nst
set_option maxRecDepth 100000
set_option linter.unusedVariables false
set_option linter.unusedSimpArgs false

theorem ba_app (a b : List UInt8) : (ByteArray.mk a.toArray) ++ (ByteArray.mk b.toArray) = ⟨(a ++ b).toArray⟩ := by
  apply ByteArray.ext
  simp [ByteArray.data_append]
end Go.Proofs.Ytjmmgekildlckaa
end
section
namespace Go.Proofs.Ytjmmgekildlckaa
open Go.RowKit Go.Nst
set_option maxRecDepth 100000
set_option linter.unusedVariables false
set_option linter.unusedSimpArgs false

/-- the cell of internal/bytealg.MaxLen -/
def MM (m : Int) (w : World) : Prop := w.cell? ⟨0, 0, none⟩ = some (.int .i64 m)
theorem MM.keep {m : Int} {w W : World} (h : MM m w) (hb : Below w.heap.size w W) : MM m W := (hb.cell (p := ⟨0, 0, none⟩) (World.block_lt_of_cell? w _ h)).trans h
theorem lvW : webC [49, 57, 55, 48, 45, 48, 49, 45, 48, 50, 84, 48, 48, 58, 48, 48, 58, 48, 49, 90] = some 86401 := by decide +kernel
theorem lvM : mailC [70, 114, 105, 44, 32, 49, 51, 32, 70, 101, 98, 32, 50, 48, 48, 57, 32, 50, 51, 58, 51, 49, 58, 51, 48, 32, 71, 77, 84] = some 1234567890 := by decide +kernel
theorem lvA : anyC [50, 48, 48, 57, 45, 48, 50, 45, 49, 52, 84, 48, 49, 58, 51, 49, 58, 51, 48, 46, 53, 43, 48, 50, 58, 48, 48] = some 1234567890 := by decide +kernel
theorem lvB : anyC [50, 48, 48, 57, 45, 48, 50, 45, 51, 48, 84, 48, 49, 58, 51, 49, 58, 51, 48, 90] = none := by decide +kernel
theorem lvO : ofD 951782400 = ⟨2000, 2, 29, 0, 0, 0⟩ := by decide +kernel
theorem lvS : showT (ofD 1234567890) = [50, 48, 48, 57, 45, 48, 50, 45, 49, 51, 84, 50, 51, 58, 51, 49, 58, 51, 48, 90] := by decide +kernel
theorem lvD : daysM 1900 2 = 28 := by decide +kernel
end Go.Proofs.Ytjmmgekildlckaa
end
