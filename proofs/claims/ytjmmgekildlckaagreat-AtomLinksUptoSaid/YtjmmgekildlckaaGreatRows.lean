/-
  NARROWER THAN 'FOR EVERY INPUT', by the rows' own cells (each row's printed sentence says how): AtomEntries: loops · AtomLinks: loops.
  DERIVED. THE GIVEN ROWS OF THIS SEAT. 2 by the template 'for every input the law returns true; each argument reads behind the call as it read before'; 0 by the template 'total and deterministic' (their statements: YtjmmgekildlckaaGreatTotals.lean).
  GIVEN WITH THE SEED: the statements are not yours to turn. If you find one false, say at which input.
  Laid BY PROGRAM, IN A SANDBOX (cutbox-rows.mjs): the forced cells as the released guide's own fill.sh prints them over the translation 2fe1941abcf1864c… (all of the seat's roots in one cut). By AI agents, Wed Nov 11 2026. No macro, syntax, notation, axiom, sorry.
-/
import Derived.Test.YtjmmgekildlckaaGreatChecked
import GoSem.Claim
import GoSem.ClaimJoined
import GoSem.ClaimMapViews
import Derived.JoinedTies
import Derived.KernelRfl
namespace Go.Proofs.YtjmmgekildlckaaGreat
/- THE CELL 'sum', in the pinned program and in every row, IS THE sha256 OF THE DUMP (.gsa) THAT YtjmmgekildlckaaGreatProg.lean LOADS. Nothing in Lean hashes anything: it is a label: what it is worth is what the hold of that sum in a sandbox is worth. -/
noncomputable def Tryz.pinned : Pinned := { name := "ytjmmgekildlckaagreat", sum := "2fe1941abcf1864c699d651397566f2bec870e7ba087d22c10fc2a3172d261ce", checked := Tryz.checked }
namespace Rows
def none {H : Type} : Left H := { results := [], args := [] }

/-- 'newsstandlaw11.AtomEntries': WHATEVER THE INPUT: true; the input reads as it did. -/
def atomEntriesSpec : ChangeSpec := { name := "atomEntries", fn := fun _ => fun
  | [d] => { results := [.lit (.bool true)], args := [d] }
  | _ => none }
def atomEntriesRow : OpenClaim := { program := "ytjmmgekildlckaagreat", sum := "2fe1941abcf1864c699d651397566f2bec870e7ba087d22c10fc2a3172d261ce", func := "newsstand/newsstandlaw11.AtomEntries", spec := "atomEntries", inPlace := ["internal/abi.NoEscape", "internal/bytealg.IndexByteString"], unfollowed := true, recurses := true, loops := true, apart := false }
def AtomEntriesSaid : Prop := atomEntriesRow.holds Tryz.pinned (OpenSpec.ofChange atomEntriesSpec)

/-- ITS FALSE NEIGHBOUR: 'it returns false'. Refute it at one input. -/
def atomEntriesWrong : ChangeSpec := { name := "atomEntries", fn := fun _ => fun
  | [d] => { results := [.lit (.bool false)], args := [d] }
  | _ => none }
def AtomEntriesWrongFalsely : Prop := atomEntriesRow.holds Tryz.pinned (OpenSpec.ofChange atomEntriesWrong)

/-- 'newsstandlaw11.AtomLinks': WHATEVER THE INPUT: true; the input reads as it did. -/
def atomLinksSpec : ChangeSpec := { name := "atomLinks", fn := fun _ => fun
  | [d] => { results := [.lit (.bool true)], args := [d] }
  | _ => none }
def atomLinksRow : OpenClaim := { program := "ytjmmgekildlckaagreat", sum := "2fe1941abcf1864c699d651397566f2bec870e7ba087d22c10fc2a3172d261ce", func := "newsstand/newsstandlaw11.AtomLinks", spec := "atomLinks", inPlace := ["internal/abi.NoEscape", "internal/bytealg.IndexByteString"], unfollowed := true, recurses := true, loops := true, apart := false }
def AtomLinksSaid : Prop := atomLinksRow.holds Tryz.pinned (OpenSpec.ofChange atomLinksSpec)

/-- ITS FALSE NEIGHBOUR: 'it returns false'. Refute it at one input. -/
def atomLinksWrong : ChangeSpec := { name := "atomLinks", fn := fun _ => fun
  | [d] => { results := [.lit (.bool false)], args := [d] }
  | _ => none }
def AtomLinksWrongFalsely : Prop := atomLinksRow.holds Tryz.pinned (OpenSpec.ofChange atomLinksWrong)

/- THE SECOND FORM. 'bulk': how many values and letters a reading holds, each counted each time it is reached (what is shared counts as often as it is met; a slice's spare places count too). A statement '..UptoSaid' is the law's where the arguments, and the package variables that the reading takes, are together of bulk at most 1048576: NARROWER than '..Said'. Prove '..Said' where nothing that the law and all that it calls make is longer than what came in: it says more and counts as full. Else prove '..UptoSaid'. A law counts once. -/
mutual
def uptoBulk {H : Type} : DataW H → Nat
  | .lit (.string bytes) => bytes.length + 1
  | .lit _ => 1
  | .nil => 1
  | .ptr d => uptoBulk d + 1
  | .slice elems spare => uptoBulkAll elems + uptoBulkAll spare + 1
  | .agg parts => uptoBulkAll parts + 1
  | .iface _ d => uptoBulk d + 1
  | .map entries => uptoBulkEntries entries + 1
  | .held _ => 1
def uptoBulkAll {H : Type} : List (DataW H) → Nat
  | [] => 0
  | d :: r => uptoBulk d + uptoBulkAll r
def uptoBulkEntries {H : Type} : List (Lit × DataW H) → Nat
  | [] => 0
  | x :: r => uptoBulkEntry x + uptoBulkEntries r
def uptoBulkEntry {H : Type} : Lit × DataW H → Nat
  | (.string bytes, d) => bytes.length + uptoBulk d + 1
  | (_, d) => uptoBulk d + 1
 end
def uptoSmall : (H : Type) → List (DataW H) → Bool := fun _ ds => decide (uptoBulkAll ds ≤ 1048576)
def OpenSpec.upto (s : _root_.Go.ChangeSpec) : _root_.Go.OpenSpec := { _root_.Go.OpenSpec.ofChange s with cond := some uptoSmall }

/-- 'newsstandlaw11.AtomEntries', WHERE WHAT IT READS IS OF BULK AT MOST 1048576: true; the input reads as it did. -/
def atomEntriesUptoRow : OpenClaim := { program := "ytjmmgekildlckaagreat", sum := "2fe1941abcf1864c699d651397566f2bec870e7ba087d22c10fc2a3172d261ce", func := "newsstand/newsstandlaw11.AtomEntries", spec := "atomEntries", inPlace := ["internal/abi.NoEscape", "internal/bytealg.IndexByteString"], unfollowed := true, recurses := true, loops := true, apart := false, narrowed := true }
def AtomEntriesUptoSaid : Prop := atomEntriesUptoRow.holds Tryz.pinned (OpenSpec.upto atomEntriesSpec)

/-- 'newsstandlaw11.AtomLinks', WHERE WHAT IT READS IS OF BULK AT MOST 1048576: true; the input reads as it did. -/
def atomLinksUptoRow : OpenClaim := { program := "ytjmmgekildlckaagreat", sum := "2fe1941abcf1864c699d651397566f2bec870e7ba087d22c10fc2a3172d261ce", func := "newsstand/newsstandlaw11.AtomLinks", spec := "atomLinks", inPlace := ["internal/abi.NoEscape", "internal/bytealg.IndexByteString"], unfollowed := true, recurses := true, loops := true, apart := false, narrowed := true }
def AtomLinksUptoSaid : Prop := atomLinksUptoRow.holds Tryz.pinned (OpenSpec.upto atomLinksSpec)

end Rows
end Go.Proofs.YtjmmgekildlckaaGreat
