/-
  Small helpers over any program.
-/
import Derived.Test.YtleachcokgjocabWords
import Derived.BigQuiet
namespace Go.Nst
open Go.RowKit

/-- a callee that leaves the world alone, in a region that only reads -/
theorem quiet_same {P : Program} {f : FuncId} {args : Array Value} {w : World} {n : Nat} {v : Value}
    (h : Calls P f args (w.drewN n) fun e w' => e = .returned v ∧ w.drewN n = w') : Calls P f args (w.drewN n) fun e w'' => e = .returned v ∧ ∃ m, w'' = w.drewN m :=
  h.mono fun _ _ ⟨he, hm⟩ => ⟨he, n, hm.symm⟩
end Go.Nst
