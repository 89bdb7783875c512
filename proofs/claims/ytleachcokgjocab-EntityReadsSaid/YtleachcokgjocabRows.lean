/-
  No cell of these rows narrows 'for every input' (looked for: loops, veiled, ifaces, maps, wideKeys, modest, calm, conditions, laid).
  DERIVED. THE GIVEN ROWS OF THIS SEAT. 4 by the template 'for every input the law returns true; each argument reads behind the call as it read before'; 0 by the template 'total and deterministic' (their statements: YtleachcokgjocabTotals.lean).
  GIVEN WITH THE SEED: the statements are not yours to turn. If you find one false, say at which input.
  Laid BY PROGRAM, IN A SANDBOX (cutbox-rows.mjs): the forced cells as the released guide's own fill.sh prints them over the translation 56fad62415ec50f9… (all of the seat's roots in one cut). By AI agents, Wed Nov 11 2026. No macro, syntax, notation, axiom, sorry.
-/
import Derived.Test.YtleachcokgjocabChecked
import GoSem.Claim
import GoSem.ClaimJoined
import GoSem.ClaimMapViews
import Derived.JoinedTies
import Derived.KernelRfl
namespace Go.Proofs.Ytleachcokgjocab
/- THE CELL 'sum', in the pinned program and in every row, IS THE sha256 OF THE DUMP (.gsa) THAT YtleachcokgjocabProg.lean LOADS. Nothing in Lean hashes anything: it is a label: what it is worth is what the hold of that sum in a sandbox is worth. -/
noncomputable def Try.pinned : Pinned := { name := "ytleachcokgjocab", sum := "56fad62415ec50f9b2abdba57e24363a06802546f66cc5bee8bf8c100fc3d26f", checked := Try.checked }
namespace Rows
def none {H : Type} : Left H := { results := [], args := [] }

/-- 'newsstandlaw07.EntitySigns': WHATEVER THE INPUT: true; the input reads as it did. -/
def entitySignsSpec : ChangeSpec := { name := "entitySigns", fn := fun _ => fun
  | [d] => { results := [.lit (.bool true)], args := [d] }
  | _ => none }
def entitySignsRow : OpenClaim := { program := "ytleachcokgjocab", sum := "56fad62415ec50f9b2abdba57e24363a06802546f66cc5bee8bf8c100fc3d26f", func := "newsstand/newsstandlaw07.EntitySigns", spec := "entitySigns", inPlace := ["internal/bytealg.IndexByteString", "internal/bytealg.IndexString", "internal/abi.NoEscape"], named := ["internal/bytealg.MaxLen"], apart := false }
def EntitySignsSaid : Prop := entitySignsRow.holds Try.pinned (OpenSpec.ofChange entitySignsSpec)

/-- ITS FALSE NEIGHBOUR: 'it returns false'. Refute it at one input. -/
def entitySignsWrong : ChangeSpec := { name := "entitySigns", fn := fun _ => fun
  | [d] => { results := [.lit (.bool false)], args := [d] }
  | _ => none }
def EntitySignsWrongFalsely : Prop := entitySignsRow.holds Try.pinned (OpenSpec.ofChange entitySignsWrong)

/-- 'newsstandlaw07.EntityReads': WHATEVER THE INPUT: true; the input reads as it did. -/
def entityReadsSpec : ChangeSpec := { name := "entityReads", fn := fun _ => fun
  | [d] => { results := [.lit (.bool true)], args := [d] }
  | _ => none }
def entityReadsRow : OpenClaim := { program := "ytleachcokgjocab", sum := "56fad62415ec50f9b2abdba57e24363a06802546f66cc5bee8bf8c100fc3d26f", func := "newsstand/newsstandlaw07.EntityReads", spec := "entityReads", inPlace := ["internal/bytealg.IndexByteString", "internal/bytealg.IndexString", "internal/abi.NoEscape"], named := ["internal/bytealg.MaxLen"], apart := false }
def EntityReadsSaid : Prop := entityReadsRow.holds Try.pinned (OpenSpec.ofChange entityReadsSpec)

/-- ITS FALSE NEIGHBOUR: 'it returns false'. Refute it at one input. -/
def entityReadsWrong : ChangeSpec := { name := "entityReads", fn := fun _ => fun
  | [d] => { results := [.lit (.bool false)], args := [d] }
  | _ => none }
def EntityReadsWrongFalsely : Prop := entityReadsRow.holds Try.pinned (OpenSpec.ofChange entityReadsWrong)

/-- 'newsstandlaw07.EntityWrites': WHATEVER THE INPUT: true; the input reads as it did. -/
def entityWritesSpec : ChangeSpec := { name := "entityWrites", fn := fun _ => fun
  | [d] => { results := [.lit (.bool true)], args := [d] }
  | _ => none }
def entityWritesRow : OpenClaim := { program := "ytleachcokgjocab", sum := "56fad62415ec50f9b2abdba57e24363a06802546f66cc5bee8bf8c100fc3d26f", func := "newsstand/newsstandlaw07.EntityWrites", spec := "entityWrites", inPlace := ["internal/bytealg.IndexByteString", "internal/bytealg.IndexString", "internal/abi.NoEscape"], named := ["internal/bytealg.MaxLen"], apart := false }
def EntityWritesSaid : Prop := entityWritesRow.holds Try.pinned (OpenSpec.ofChange entityWritesSpec)

/-- ITS FALSE NEIGHBOUR: 'it returns false'. Refute it at one input. -/
def entityWritesWrong : ChangeSpec := { name := "entityWrites", fn := fun _ => fun
  | [d] => { results := [.lit (.bool false)], args := [d] }
  | _ => none }
def EntityWritesWrongFalsely : Prop := entityWritesRow.holds Try.pinned (OpenSpec.ofChange entityWritesWrong)

/-- 'newsstandlaw07.EntityBoth': WHATEVER THE INPUT: true; the input reads as it did. -/
def entityBothSpec : ChangeSpec := { name := "entityBoth", fn := fun _ => fun
  | [d1, d2] => { results := [.lit (.bool true)], args := [d1, d2] }
  | _ => none }
def entityBothRow : OpenClaim := { program := "ytleachcokgjocab", sum := "56fad62415ec50f9b2abdba57e24363a06802546f66cc5bee8bf8c100fc3d26f", func := "newsstand/newsstandlaw07.EntityBoth", spec := "entityBoth", inPlace := ["internal/bytealg.IndexByteString", "internal/bytealg.IndexString", "internal/abi.NoEscape"], named := ["internal/bytealg.MaxLen"], apart := false }
def EntityBothSaid : Prop := entityBothRow.holds Try.pinned (OpenSpec.ofChange entityBothSpec)

/-- ITS FALSE NEIGHBOUR: 'it returns false'. Refute it at one input. -/
def entityBothWrong : ChangeSpec := { name := "entityBoth", fn := fun _ => fun
  | [d1, d2] => { results := [.lit (.bool false)], args := [d1, d2] }
  | _ => none }
def EntityBothWrongFalsely : Prop := entityBothRow.holds Try.pinned (OpenSpec.ofChange entityBothWrong)

/- THE SECOND FORM. 'bulk': how many values and letters a reading holds, each counted each time it is reached (what is shared counts as often as it is met; a slice's spare places count too). A statement '..UptoSaid' is the law's where the arguments, and the package variables that the reading takes, are together of bulk at most 1048576: NARROWER than '..Said'. Prove '..Said' where nothing that the law and all that it calls make is longer than what came in: it says more and counts as full. Else prove '..UptoSaid'. A law counts once. -/
mutual
def uptoBulk {H : Type} : DataW H → Nat
  | .lit (.string bytes) => bytes.length + 1
  | .lit _ => 1
  | .nil => 1
  | .ptr d => uptoBulk d + 1
  | .slice elems spare => uptoBulkAll elems + uptoBulkAll spare + 1
  | .agg parts => uptoBulkAll parts + 1
  | .iface _ d => uptoBulk d + 1
  | .map entries => uptoBulkEntries entries + 1
  | .held _ => 1
def uptoBulkAll {H : Type} : List (DataW H) → Nat
  | [] => 0
  | d :: r => uptoBulk d + uptoBulkAll r
def uptoBulkEntries {H : Type} : List (Lit × DataW H) → Nat
  | [] => 0
  | x :: r => uptoBulkEntry x + uptoBulkEntries r
def uptoBulkEntry {H : Type} : Lit × DataW H → Nat
  | (.string bytes, d) => bytes.length + uptoBulk d + 1
  | (_, d) => uptoBulk d + 1
 end
def uptoSmall : (H : Type) → List (DataW H) → Bool := fun _ ds => decide (uptoBulkAll ds ≤ 1048576)
def OpenSpec.upto (s : _root_.Go.ChangeSpec) : _root_.Go.OpenSpec := { _root_.Go.OpenSpec.ofChange s with cond := some uptoSmall }

/-- 'newsstandlaw07.EntitySigns', WHERE WHAT IT READS IS OF BULK AT MOST 1048576: true; the input reads as it did. -/
def entitySignsUptoRow : OpenClaim := { program := "ytleachcokgjocab", sum := "56fad62415ec50f9b2abdba57e24363a06802546f66cc5bee8bf8c100fc3d26f", func := "newsstand/newsstandlaw07.EntitySigns", spec := "entitySigns", inPlace := ["internal/bytealg.IndexByteString", "internal/bytealg.IndexString", "internal/abi.NoEscape"], named := ["internal/bytealg.MaxLen"], apart := false, narrowed := true }
def EntitySignsUptoSaid : Prop := entitySignsUptoRow.holds Try.pinned (OpenSpec.upto entitySignsSpec)

/-- 'newsstandlaw07.EntityReads', WHERE WHAT IT READS IS OF BULK AT MOST 1048576: true; the input reads as it did. -/
def entityReadsUptoRow : OpenClaim := { program := "ytleachcokgjocab", sum := "56fad62415ec50f9b2abdba57e24363a06802546f66cc5bee8bf8c100fc3d26f", func := "newsstand/newsstandlaw07.EntityReads", spec := "entityReads", inPlace := ["internal/bytealg.IndexByteString", "internal/bytealg.IndexString", "internal/abi.NoEscape"], named := ["internal/bytealg.MaxLen"], apart := false, narrowed := true }
def EntityReadsUptoSaid : Prop := entityReadsUptoRow.holds Try.pinned (OpenSpec.upto entityReadsSpec)

/-- 'newsstandlaw07.EntityWrites', WHERE WHAT IT READS IS OF BULK AT MOST 1048576: true; the input reads as it did. -/
def entityWritesUptoRow : OpenClaim := { program := "ytleachcokgjocab", sum := "56fad62415ec50f9b2abdba57e24363a06802546f66cc5bee8bf8c100fc3d26f", func := "newsstand/newsstandlaw07.EntityWrites", spec := "entityWrites", inPlace := ["internal/bytealg.IndexByteString", "internal/bytealg.IndexString", "internal/abi.NoEscape"], named := ["internal/bytealg.MaxLen"], apart := false, narrowed := true }
def EntityWritesUptoSaid : Prop := entityWritesUptoRow.holds Try.pinned (OpenSpec.upto entityWritesSpec)

/-- 'newsstandlaw07.EntityBoth', WHERE WHAT IT READS IS OF BULK AT MOST 1048576: true; the input reads as it did. -/
def entityBothUptoRow : OpenClaim := { program := "ytleachcokgjocab", sum := "56fad62415ec50f9b2abdba57e24363a06802546f66cc5bee8bf8c100fc3d26f", func := "newsstand/newsstandlaw07.EntityBoth", spec := "entityBoth", inPlace := ["internal/bytealg.IndexByteString", "internal/bytealg.IndexString", "internal/abi.NoEscape"], named := ["internal/bytealg.MaxLen"], apart := false, narrowed := true }
def EntityBothUptoSaid : Prop := entityBothUptoRow.holds Try.pinned (OpenSpec.upto entityBothSpec)

end Rows
end Go.Proofs.Ytleachcokgjocab
