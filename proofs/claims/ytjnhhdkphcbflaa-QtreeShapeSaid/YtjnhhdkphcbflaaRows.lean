/-
  NARROWER THAN 'FOR EVERY INPUT', by the rows' own cells (each row's printed sentence says how): QtreeChecks: loops · QtreeNorms: loops · QtreeShape: loops · QtreeAgain: loops.
  DERIVED. THE GIVEN ROWS OF THIS SEAT. 4 by the template 'for every input the law returns true; each argument reads behind the call as it read before'; 0 by the template 'total and deterministic' (their statements: YtjnhhdkphcbflaaTotals.lean).
  GIVEN WITH THE SEED: the statements are not yours to turn. If you find one false, say at which input.
  Laid BY PROGRAM, IN A SANDBOX (cutbox-rows.mjs): the forced cells as the released guide's own fill.sh prints them over the translation c63391d0e6f2a5ef… (all of the seat's roots in one cut). By AI agents, Wed Nov 11 2026. No macro, syntax, notation, axiom, sorry.
-/
import Derived.Test.YtjnhhdkphcbflaaChecked
import GoSem.Claim
import GoSem.ClaimJoined
import GoSem.ClaimMapViews
import Derived.JoinedTies
import Derived.KernelRfl
namespace Go.Proofs.Ytjnhhdkphcbflaa
/- THE CELL 'sum', in the pinned program and in every row, IS THE sha256 OF THE DUMP (.gsa) THAT YtjnhhdkphcbflaaProg.lean LOADS. Nothing in Lean hashes anything: it is a label: what it is worth is what the hold of that sum in a sandbox is worth. -/
noncomputable def Try.pinned : Pinned := { name := "ytjnhhdkphcbflaa", sum := "c63391d0e6f2a5efc6a271c12bd2204f0b80fbc213709c87f4b64f353ff8e22b", checked := Try.checked }
namespace Rows
def none {H : Type} : Left H := { results := [], args := [] }

/-- 'newsstandlaw25.QtreeChecks': WHATEVER THE INPUT: true; the input reads as it did. -/
def qtreeChecksSpec : ChangeSpec := { name := "qtreeChecks", fn := fun _ => fun
  | [d1, d2] => { results := [.lit (.bool true)], args := [d1, d2] }
  | _ => none }
def qtreeChecksRow : OpenClaim := { program := "ytjnhhdkphcbflaa", sum := "c63391d0e6f2a5efc6a271c12bd2204f0b80fbc213709c87f4b64f353ff8e22b", func := "newsstand/newsstandlaw25.QtreeChecks", spec := "qtreeChecks", inPlace := ["internal/abi.NoEscape"], unfollowed := true, recurses := true, loops := true, apart := false }
def QtreeChecksSaid : Prop := qtreeChecksRow.holds Try.pinned (OpenSpec.ofChange qtreeChecksSpec)

/-- ITS FALSE NEIGHBOUR: 'it returns false'. Refute it at one input. -/
def qtreeChecksWrong : ChangeSpec := { name := "qtreeChecks", fn := fun _ => fun
  | [d1, d2] => { results := [.lit (.bool false)], args := [d1, d2] }
  | _ => none }
def QtreeChecksWrongFalsely : Prop := qtreeChecksRow.holds Try.pinned (OpenSpec.ofChange qtreeChecksWrong)

/-- 'newsstandlaw25.QtreeNorms': WHATEVER THE INPUT: true; the input reads as it did. -/
def qtreeNormsSpec : ChangeSpec := { name := "qtreeNorms", fn := fun _ => fun
  | [d] => { results := [.lit (.bool true)], args := [d] }
  | _ => none }
def qtreeNormsRow : OpenClaim := { program := "ytjnhhdkphcbflaa", sum := "c63391d0e6f2a5efc6a271c12bd2204f0b80fbc213709c87f4b64f353ff8e22b", func := "newsstand/newsstandlaw25.QtreeNorms", spec := "qtreeNorms", inPlace := ["internal/abi.NoEscape"], unfollowed := true, recurses := true, loops := true, apart := false }
def QtreeNormsSaid : Prop := qtreeNormsRow.holds Try.pinned (OpenSpec.ofChange qtreeNormsSpec)

/-- ITS FALSE NEIGHBOUR: 'it returns false'. Refute it at one input. -/
def qtreeNormsWrong : ChangeSpec := { name := "qtreeNorms", fn := fun _ => fun
  | [d] => { results := [.lit (.bool false)], args := [d] }
  | _ => none }
def QtreeNormsWrongFalsely : Prop := qtreeNormsRow.holds Try.pinned (OpenSpec.ofChange qtreeNormsWrong)

/-- 'newsstandlaw25.QtreeShape': WHATEVER THE INPUT: true; the input reads as it did. -/
def qtreeShapeSpec : ChangeSpec := { name := "qtreeShape", fn := fun _ => fun
  | [d] => { results := [.lit (.bool true)], args := [d] }
  | _ => none }
def qtreeShapeRow : OpenClaim := { program := "ytjnhhdkphcbflaa", sum := "c63391d0e6f2a5efc6a271c12bd2204f0b80fbc213709c87f4b64f353ff8e22b", func := "newsstand/newsstandlaw25.QtreeShape", spec := "qtreeShape", inPlace := ["internal/abi.NoEscape"], unfollowed := true, recurses := true, loops := true, apart := false }
def QtreeShapeSaid : Prop := qtreeShapeRow.holds Try.pinned (OpenSpec.ofChange qtreeShapeSpec)

/-- ITS FALSE NEIGHBOUR: 'it returns false'. Refute it at one input. -/
def qtreeShapeWrong : ChangeSpec := { name := "qtreeShape", fn := fun _ => fun
  | [d] => { results := [.lit (.bool false)], args := [d] }
  | _ => none }
def QtreeShapeWrongFalsely : Prop := qtreeShapeRow.holds Try.pinned (OpenSpec.ofChange qtreeShapeWrong)

/-- 'newsstandlaw25.QtreeAgain': WHATEVER THE INPUT: true; the input reads as it did. -/
def qtreeAgainSpec : ChangeSpec := { name := "qtreeAgain", fn := fun _ => fun
  | [d] => { results := [.lit (.bool true)], args := [d] }
  | _ => none }
def qtreeAgainRow : OpenClaim := { program := "ytjnhhdkphcbflaa", sum := "c63391d0e6f2a5efc6a271c12bd2204f0b80fbc213709c87f4b64f353ff8e22b", func := "newsstand/newsstandlaw25.QtreeAgain", spec := "qtreeAgain", inPlace := ["internal/abi.NoEscape"], unfollowed := true, recurses := true, loops := true, apart := false }
def QtreeAgainSaid : Prop := qtreeAgainRow.holds Try.pinned (OpenSpec.ofChange qtreeAgainSpec)

/-- ITS FALSE NEIGHBOUR: 'it returns false'. Refute it at one input. -/
def qtreeAgainWrong : ChangeSpec := { name := "qtreeAgain", fn := fun _ => fun
  | [d] => { results := [.lit (.bool false)], args := [d] }
  | _ => none }
def QtreeAgainWrongFalsely : Prop := qtreeAgainRow.holds Try.pinned (OpenSpec.ofChange qtreeAgainWrong)

/- THE SECOND FORM. 'bulk': how many values and letters a reading holds, each counted each time it is reached (what is shared counts as often as it is met; a slice's spare places count too). A statement '..UptoSaid' is the law's where the arguments, and the package variables that the reading takes, are together of bulk at most 1048576: NARROWER than '..Said'. Prove '..Said' where nothing that the law and all that it calls make is longer than what came in: it says more and counts as full. Else prove '..UptoSaid'. A law counts once. -/
mutual
def uptoBulk {H : Type} : DataW H → Nat
  | .lit (.string bytes) => bytes.length + 1
  | .lit _ => 1
  | .nil => 1
  | .ptr d => uptoBulk d + 1
  | .slice elems spare => uptoBulkAll elems + uptoBulkAll spare + 1
  | .agg parts => uptoBulkAll parts + 1
  | .iface _ d => uptoBulk d + 1
  | .map entries => uptoBulkEntries entries + 1
  | .held _ => 1
def uptoBulkAll {H : Type} : List (DataW H) → Nat
  | [] => 0
  | d :: r => uptoBulk d + uptoBulkAll r
def uptoBulkEntries {H : Type} : List (Lit × DataW H) → Nat
  | [] => 0
  | x :: r => uptoBulkEntry x + uptoBulkEntries r
def uptoBulkEntry {H : Type} : Lit × DataW H → Nat
  | (.string bytes, d) => bytes.length + uptoBulk d + 1
  | (_, d) => uptoBulk d + 1
 end
def uptoSmall : (H : Type) → List (DataW H) → Bool := fun _ ds => decide (uptoBulkAll ds ≤ 1048576)
def OpenSpec.upto (s : _root_.Go.ChangeSpec) : _root_.Go.OpenSpec := { _root_.Go.OpenSpec.ofChange s with cond := some uptoSmall }

/-- 'newsstandlaw25.QtreeChecks', WHERE WHAT IT READS IS OF BULK AT MOST 1048576: true; the input reads as it did. -/
def qtreeChecksUptoRow : OpenClaim := { program := "ytjnhhdkphcbflaa", sum := "c63391d0e6f2a5efc6a271c12bd2204f0b80fbc213709c87f4b64f353ff8e22b", func := "newsstand/newsstandlaw25.QtreeChecks", spec := "qtreeChecks", inPlace := ["internal/abi.NoEscape"], unfollowed := true, recurses := true, loops := true, apart := false, narrowed := true }
def QtreeChecksUptoSaid : Prop := qtreeChecksUptoRow.holds Try.pinned (OpenSpec.upto qtreeChecksSpec)

/-- 'newsstandlaw25.QtreeNorms', WHERE WHAT IT READS IS OF BULK AT MOST 1048576: true; the input reads as it did. -/
def qtreeNormsUptoRow : OpenClaim := { program := "ytjnhhdkphcbflaa", sum := "c63391d0e6f2a5efc6a271c12bd2204f0b80fbc213709c87f4b64f353ff8e22b", func := "newsstand/newsstandlaw25.QtreeNorms", spec := "qtreeNorms", inPlace := ["internal/abi.NoEscape"], unfollowed := true, recurses := true, loops := true, apart := false, narrowed := true }
def QtreeNormsUptoSaid : Prop := qtreeNormsUptoRow.holds Try.pinned (OpenSpec.upto qtreeNormsSpec)

/-- 'newsstandlaw25.QtreeShape', WHERE WHAT IT READS IS OF BULK AT MOST 1048576: true; the input reads as it did. -/
def qtreeShapeUptoRow : OpenClaim := { program := "ytjnhhdkphcbflaa", sum := "c63391d0e6f2a5efc6a271c12bd2204f0b80fbc213709c87f4b64f353ff8e22b", func := "newsstand/newsstandlaw25.QtreeShape", spec := "qtreeShape", inPlace := ["internal/abi.NoEscape"], unfollowed := true, recurses := true, loops := true, apart := false, narrowed := true }
def QtreeShapeUptoSaid : Prop := qtreeShapeUptoRow.holds Try.pinned (OpenSpec.upto qtreeShapeSpec)

/-- 'newsstandlaw25.QtreeAgain', WHERE WHAT IT READS IS OF BULK AT MOST 1048576: true; the input reads as it did. -/
def qtreeAgainUptoRow : OpenClaim := { program := "ytjnhhdkphcbflaa", sum := "c63391d0e6f2a5efc6a271c12bd2204f0b80fbc213709c87f4b64f353ff8e22b", func := "newsstand/newsstandlaw25.QtreeAgain", spec := "qtreeAgain", inPlace := ["internal/abi.NoEscape"], unfollowed := true, recurses := true, loops := true, apart := false, narrowed := true }
def QtreeAgainUptoSaid : Prop := qtreeAgainUptoRow.holds Try.pinned (OpenSpec.upto qtreeAgainSpec)

end Rows
end Go.Proofs.Ytjnhhdkphcbflaa
