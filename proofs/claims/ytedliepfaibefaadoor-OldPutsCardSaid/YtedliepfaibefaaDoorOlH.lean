/-
  The reference's Get of what older formats tell.
-/
import Derived.Test.YtedliepfaibefaaDoorOlG
import Derived.Test.YtedliepfaibefaaDoorOlB3
import Derived.Test.YtedliepfaibefaaDoorCdZ
namespace Go.Proofs.YtedliepfaibefaaDoor
open Go.RowKit Go.Nst
set_option maxRecDepth 100000
set_option linter.unusedVariables false
set_option linter.unusedSimpArgs false

theorem s2_u8 (s t : ByteArray) : ∀ (i : Nat) (x : UInt8), (#[Value.string s, .string t] : Array Value)[i]? ≠ some (Value.int .u8 (x.toNat : Int)) := by
  intro i x h
  by_cases hi : i < 2
  · rcases (by omega : i = 0 ∨ i = 1) with rfl | rfl <;> simp at h
  · rw [Array.getElem?_eq_none (by simp; omega)] at h; cases h
def s2 (s t : List UInt8) : Array Value := #[.string ⟨s.toArray⟩, .string ⟨t.toArray⟩]
section
variable {w wr w3 : World} {g go gi gt : Nat} {r r' : RS} {v k a b n : Int} {s t : List UInt8} {a1 b1 n1 : Int} {x1 y1 : List UInt8}
end
theorem mk2s (w : World) : (Instr.makeSlice 58 (.int .i64 2) (.int .i64 2)).run Tryd.prog w = .ok (.slice (some ⟨w.heap.size, 0, none⟩) 2 2) (w.alloc (.cells #[.string ⟨#[]⟩, .string ⟨#[]⟩] 9)) := by kernel_rfl
def getORV (r : Option Ol) : Value := match r with
  | some o => .tuple #[.agg (OC o.v o.k o.a o.b o.n o.s o.t), .bool true]
  | none => .tuple #[.agg (OC 0 0 0 0 0 [] []), .bool false]
end Go.Proofs.YtedliepfaibefaaDoor
