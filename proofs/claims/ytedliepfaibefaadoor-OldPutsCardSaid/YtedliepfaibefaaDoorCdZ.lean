/-
  The reference's Get: the event of bytes.
  CodeUses, CodeShort, CodePuts, CodeGets: the walks.
  CodePuts, CodeGets: the walks.
-/
import Derived.Test.YtedliepfaibefaaDoorCdY
import Derived.Test.YtedliepfaibefaaDoorCdB
import Derived.Test.YtedliepfaibefaaDoorRdr
section
namespace Go.Proofs.YtedliepfaibefaaDoor
open Go.RowKit Go.Nst
set_option maxRecDepth 100000
set_option linter.unusedVariables false
set_option linter.unusedSimpArgs false

theorem i3_u8 (a b n : Int) : ∀ (i : Nat) (x : UInt8), (#[Value.int .i64 a, .int .i64 b, .int .i64 n] : Array Value)[i]? ≠ some (Value.int .u8 (x.toNat : Int)) := by
  intro i x h
  by_cases hi : i < 3
  · rcases (by omega : i = 0 ∨ i = 1 ∨ i = 2) with rfl | rfl | rfl <;> simp at h
  · rw [Array.getElem?_eq_none (by simp; omega)] at h; cases h
theorem s3_u8 (s t u : ByteArray) : ∀ (i : Nat) (x : UInt8), (#[Value.string s, .string t, .string u] : Array Value)[i]? ≠ some (Value.int .u8 (x.toNat : Int)) := by
  intro i x h
  by_cases hi : i < 3
  · rcases (by omega : i = 0 ∨ i = 1 ∨ i = 2) with rfl | rfl | rfl <;> simp at h
  · rw [Array.getElem?_eq_none (by simp; omega)] at h; cases h
def i3 (a b n : Int) : Array Value := #[.int .i64 a, .int .i64 b, .int .i64 n]
def s3 (s t u : List UInt8) : Array Value := #[.string ⟨s.toArray⟩, .string ⟨t.toArray⟩, .string ⟨u.toArray⟩]
section
variable {w wr w3 : World} {g ge gi gt : Nat} {s s' : RS} {k a b n : Int} {x y z : List UInt8} {a1 b1 n1 : Int} {x1 y1 z1 : List UInt8}
end
theorem mk3i (w : World) : (Instr.makeSlice 57 (.int .i64 3) (.int .i64 3)).run Tryd.prog w = .ok (.slice (some ⟨w.heap.size, 0, none⟩) 3 3) (w.alloc (.cells #[.int .i64 0, .int .i64 0, .int .i64 0] 3)) := by kernel_rfl
theorem mk3s (w : World) : (Instr.makeSlice 58 (.int .i64 3) (.int .i64 3)).run Tryd.prog w = .ok (.slice (some ⟨w.heap.size, 0, none⟩) 3 3) (w.alloc (.cells #[.string ⟨#[]⟩, .string ⟨#[]⟩, .string ⟨#[]⟩] 9)) := by kernel_rfl
def getRV (r : Option Ev) : Value := match r with
  | some e => .tuple #[.agg (evV e.k e.a e.b e.n e.s e.t e.u), .bool true]
  | none => .tuple #[.agg (evV 0 0 0 0 [] [] []), .bool false]
def gN (m : Nat) (s : RS) (z i : Nat) : Int := if i < z then vaN m s i else 0
def gT (q : Nat) (s : RS) (z i : Nat) : List UInt8 := if i < z then vaT q s i else []
end Go.Proofs.YtedliepfaibefaaDoor
end
section
namespace Go.Proofs.YtedliepfaibefaaDoor
open Go.RowKit Go.Nst
set_option maxRecDepth 100000
set_option linter.unusedVariables false
set_option linter.unusedSimpArgs false

theorem selN_len (m i : Nat) (x : Int) : (selN m i x).length ≤ 11 := by
  unfold selN
  split
  · exact (putL_len _).2
  · simp
theorem selT_len (m i : Nat) (x : List UInt8) : (selT m i x).length ≤ x.length + 11 := by
  unfold selT
  split
  · exact textL_len x
  · simp
theorem codeL_len {e : Ev} (h : e.ok = true) : (codeL e).length ≤ 3000 := by
  have f := evF h
  have h1 := f.s
  have h2 := f.t
  have h3 := f.u
  unfold codeL codeT numsL textsL
  simp only [List.length_append, List.length_cons, List.length_nil]
  have a1 := selN_len (usesN e.k) 0 e.a
  have a2 := selN_len (usesN e.k) 1 e.b
  have a3 := selN_len (usesN e.k) 2 e.n
  have b1 := selT_len (usesT e.k) 0 e.s
  have b2 := selT_len (usesT e.k) 1 e.t
  have b3 := selT_len (usesT e.k) 2 e.u
  omega
theorem largeB_no {s t u : List UInt8} (h : largeB s t u = false) : s.length ≤ 1000 ∧ t.length ≤ 1000 ∧ u.length ≤ 1000 := by
  unfold largeB at h
  simp at h
  omega

end Go.Proofs.YtedliepfaibefaaDoor
end
section
namespace Go.Proofs.YtedliepfaibefaaDoor
open Go.RowKit Go.Nst
set_option maxRecDepth 100000
set_option linter.unusedVariables false
set_option linter.unusedSimpArgs false


theorem ev_agg (e : Ev) : evV e.k e.a e.b e.n e.s e.t e.u = #[.int .i64 e.k, .int .i64 e.a, .int .i64 e.b, .int .i64 e.n, .string ⟨e.s.toArray⟩, .string ⟨e.t.toArray⟩, .string ⟨e.u.toArray⟩] := rfl
end Go.Proofs.YtedliepfaibefaaDoor
end
