/-
  No cell of these rows narrows 'for every input' (looked for: loops, veiled, ifaces, maps, wideKeys, modest, calm, conditions, laid).
  DERIVED. THE GIVEN ROWS OF THIS SEAT. 4 by the template 'for every input the law returns true; each argument reads behind the call as it read before'; 0 by the template 'total and deterministic' (their statements: YtnagckdaleafdaaTotals.lean).
  GIVEN WITH THE SEED: the statements are not yours to turn. If you find one false, say at which input.
  Laid BY PROGRAM, IN A SANDBOX (cutbox-rows.mjs): the forced cells as the released guide's own fill.sh prints them over the translation ca7158ac232b3068… (all of the seat's roots in one cut). By AI agents, Wed Nov 11 2026. No macro, syntax, notation, axiom, sorry.
-/
import Derived.Test.YtnagckdaleafdaaChecked
import GoSem.Claim
import GoSem.ClaimJoined
import GoSem.ClaimMapViews
import Derived.JoinedTies
import Derived.KernelRfl
namespace Go.Proofs.Ytnagckdaleafdaa
/- THE CELL 'sum', in the pinned program and in every row, IS THE sha256 OF THE DUMP (.gsa) THAT YtnagckdaleafdaaProg.lean LOADS. Nothing in Lean hashes anything: it is a label: what it is worth is what the hold of that sum in a sandbox is worth. -/
noncomputable def Try.pinned : Pinned := { name := "ytnagckdaleafdaa", sum := "ca7158ac232b30680bdcd4fee723513789173e215a3ccfa38734d71c31ee7f94", checked := Try.checked }
namespace Rows
def none {H : Type} : Left H := { results := [], args := [] }

/-- 'newsstandlaw08.XmlTokens': WHATEVER THE INPUT: true; the input reads as it did. -/
def xmlTokensSpec : ChangeSpec := { name := "xmlTokens", fn := fun _ => fun
  | [d] => { results := [.lit (.bool true)], args := [d] }
  | _ => none }
def xmlTokensRow : OpenClaim := { program := "ytnagckdaleafdaa", sum := "ca7158ac232b30680bdcd4fee723513789173e215a3ccfa38734d71c31ee7f94", func := "newsstand/newsstandlaw08.XmlTokens", spec := "xmlTokens", inPlace := ["internal/bytealg.IndexByteString", "internal/bytealg.IndexString", "internal/abi.NoEscape"], unfollowed := true, recurses := true, named := ["internal/bytealg.MaxLen"], apart := false }
def XmlTokensSaid : Prop := xmlTokensRow.holds Try.pinned (OpenSpec.ofChange xmlTokensSpec)

/-- ITS FALSE NEIGHBOUR: 'it returns false'. Refute it at one input. -/
def xmlTokensWrong : ChangeSpec := { name := "xmlTokens", fn := fun _ => fun
  | [d] => { results := [.lit (.bool false)], args := [d] }
  | _ => none }
def XmlTokensWrongFalsely : Prop := xmlTokensRow.holds Try.pinned (OpenSpec.ofChange xmlTokensWrong)

/-- 'newsstandlaw08.XmlWrites': WHATEVER THE INPUT: true; the input reads as it did. -/
def xmlWritesSpec : ChangeSpec := { name := "xmlWrites", fn := fun _ => fun
  | [d] => { results := [.lit (.bool true)], args := [d] }
  | _ => none }
def xmlWritesRow : OpenClaim := { program := "ytnagckdaleafdaa", sum := "ca7158ac232b30680bdcd4fee723513789173e215a3ccfa38734d71c31ee7f94", func := "newsstand/newsstandlaw08.XmlWrites", spec := "xmlWrites", inPlace := ["internal/bytealg.IndexByteString", "internal/bytealg.IndexString", "internal/abi.NoEscape"], unfollowed := true, recurses := true, named := ["internal/bytealg.MaxLen"], apart := false }
def XmlWritesSaid : Prop := xmlWritesRow.holds Try.pinned (OpenSpec.ofChange xmlWritesSpec)

/-- ITS FALSE NEIGHBOUR: 'it returns false'. Refute it at one input. -/
def xmlWritesWrong : ChangeSpec := { name := "xmlWrites", fn := fun _ => fun
  | [d] => { results := [.lit (.bool false)], args := [d] }
  | _ => none }
def XmlWritesWrongFalsely : Prop := xmlWritesRow.holds Try.pinned (OpenSpec.ofChange xmlWritesWrong)

/-- 'newsstandlaw08.XmlNames': WHATEVER THE INPUT: true; the input reads as it did. -/
def xmlNamesSpec : ChangeSpec := { name := "xmlNames", fn := fun _ => fun
  | [d1, d2, d3] => { results := [.lit (.bool true)], args := [d1, d2, d3] }
  | _ => none }
def xmlNamesRow : OpenClaim := { program := "ytnagckdaleafdaa", sum := "ca7158ac232b30680bdcd4fee723513789173e215a3ccfa38734d71c31ee7f94", func := "newsstand/newsstandlaw08.XmlNames", spec := "xmlNames", inPlace := ["internal/bytealg.IndexByteString", "internal/bytealg.IndexString", "internal/abi.NoEscape"], unfollowed := true, recurses := true, named := ["internal/bytealg.MaxLen"], apart := false }
def XmlNamesSaid : Prop := xmlNamesRow.holds Try.pinned (OpenSpec.ofChange xmlNamesSpec)

/-- ITS FALSE NEIGHBOUR: 'it returns false'. Refute it at one input. -/
def xmlNamesWrong : ChangeSpec := { name := "xmlNames", fn := fun _ => fun
  | [d1, d2, d3] => { results := [.lit (.bool false)], args := [d1, d2, d3] }
  | _ => none }
def XmlNamesWrongFalsely : Prop := xmlNamesRow.holds Try.pinned (OpenSpec.ofChange xmlNamesWrong)

/-- 'newsstandlaw08.XmlNothing': WHATEVER THE INPUT: true; the input reads as it did. -/
def xmlNothingSpec : ChangeSpec := { name := "xmlNothing", fn := fun _ => fun
  | [d1, d2, d3] => { results := [.lit (.bool true)], args := [d1, d2, d3] }
  | _ => none }
def xmlNothingRow : OpenClaim := { program := "ytnagckdaleafdaa", sum := "ca7158ac232b30680bdcd4fee723513789173e215a3ccfa38734d71c31ee7f94", func := "newsstand/newsstandlaw08.XmlNothing", spec := "xmlNothing", inPlace := ["internal/bytealg.IndexByteString", "internal/bytealg.IndexString", "internal/abi.NoEscape"], unfollowed := true, recurses := true, named := ["internal/bytealg.MaxLen"], apart := false }
def XmlNothingSaid : Prop := xmlNothingRow.holds Try.pinned (OpenSpec.ofChange xmlNothingSpec)

/-- ITS FALSE NEIGHBOUR: 'it returns false'. Refute it at one input. -/
def xmlNothingWrong : ChangeSpec := { name := "xmlNothing", fn := fun _ => fun
  | [d1, d2, d3] => { results := [.lit (.bool false)], args := [d1, d2, d3] }
  | _ => none }
def XmlNothingWrongFalsely : Prop := xmlNothingRow.holds Try.pinned (OpenSpec.ofChange xmlNothingWrong)

/- THE SECOND FORM. 'bulk': how many values and letters a reading holds, each counted each time it is reached (what is shared counts as often as it is met; a slice's spare places count too). A statement '..UptoSaid' is the law's where the arguments, and the package variables that the reading takes, are together of bulk at most 1048576: NARROWER than '..Said'. Prove '..Said' where nothing that the law and all that it calls make is longer than what came in: it says more and counts as full. Else prove '..UptoSaid'. A law counts once. -/
mutual
def uptoBulk {H : Type} : DataW H → Nat
  | .lit (.string bytes) => bytes.length + 1
  | .lit _ => 1
  | .nil => 1
  | .ptr d => uptoBulk d + 1
  | .slice elems spare => uptoBulkAll elems + uptoBulkAll spare + 1
  | .agg parts => uptoBulkAll parts + 1
  | .iface _ d => uptoBulk d + 1
  | .map entries => uptoBulkEntries entries + 1
  | .held _ => 1
def uptoBulkAll {H : Type} : List (DataW H) → Nat
  | [] => 0
  | d :: r => uptoBulk d + uptoBulkAll r
def uptoBulkEntries {H : Type} : List (Lit × DataW H) → Nat
  | [] => 0
  | x :: r => uptoBulkEntry x + uptoBulkEntries r
def uptoBulkEntry {H : Type} : Lit × DataW H → Nat
  | (.string bytes, d) => bytes.length + uptoBulk d + 1
  | (_, d) => uptoBulk d + 1
 end
def uptoSmall : (H : Type) → List (DataW H) → Bool := fun _ ds => decide (uptoBulkAll ds ≤ 1048576)
def OpenSpec.upto (s : _root_.Go.ChangeSpec) : _root_.Go.OpenSpec := { _root_.Go.OpenSpec.ofChange s with cond := some uptoSmall }

/-- 'newsstandlaw08.XmlTokens', WHERE WHAT IT READS IS OF BULK AT MOST 1048576: true; the input reads as it did. -/
def xmlTokensUptoRow : OpenClaim := { program := "ytnagckdaleafdaa", sum := "ca7158ac232b30680bdcd4fee723513789173e215a3ccfa38734d71c31ee7f94", func := "newsstand/newsstandlaw08.XmlTokens", spec := "xmlTokens", inPlace := ["internal/bytealg.IndexByteString", "internal/bytealg.IndexString", "internal/abi.NoEscape"], unfollowed := true, recurses := true, named := ["internal/bytealg.MaxLen"], apart := false, narrowed := true }
def XmlTokensUptoSaid : Prop := xmlTokensUptoRow.holds Try.pinned (OpenSpec.upto xmlTokensSpec)

/-- 'newsstandlaw08.XmlWrites', WHERE WHAT IT READS IS OF BULK AT MOST 1048576: true; the input reads as it did. -/
def xmlWritesUptoRow : OpenClaim := { program := "ytnagckdaleafdaa", sum := "ca7158ac232b30680bdcd4fee723513789173e215a3ccfa38734d71c31ee7f94", func := "newsstand/newsstandlaw08.XmlWrites", spec := "xmlWrites", inPlace := ["internal/bytealg.IndexByteString", "internal/bytealg.IndexString", "internal/abi.NoEscape"], unfollowed := true, recurses := true, named := ["internal/bytealg.MaxLen"], apart := false, narrowed := true }
def XmlWritesUptoSaid : Prop := xmlWritesUptoRow.holds Try.pinned (OpenSpec.upto xmlWritesSpec)

/-- 'newsstandlaw08.XmlNames', WHERE WHAT IT READS IS OF BULK AT MOST 1048576: true; the input reads as it did. -/
def xmlNamesUptoRow : OpenClaim := { program := "ytnagckdaleafdaa", sum := "ca7158ac232b30680bdcd4fee723513789173e215a3ccfa38734d71c31ee7f94", func := "newsstand/newsstandlaw08.XmlNames", spec := "xmlNames", inPlace := ["internal/bytealg.IndexByteString", "internal/bytealg.IndexString", "internal/abi.NoEscape"], unfollowed := true, recurses := true, named := ["internal/bytealg.MaxLen"], apart := false, narrowed := true }
def XmlNamesUptoSaid : Prop := xmlNamesUptoRow.holds Try.pinned (OpenSpec.upto xmlNamesSpec)

/-- 'newsstandlaw08.XmlNothing', WHERE WHAT IT READS IS OF BULK AT MOST 1048576: true; the input reads as it did. -/
def xmlNothingUptoRow : OpenClaim := { program := "ytnagckdaleafdaa", sum := "ca7158ac232b30680bdcd4fee723513789173e215a3ccfa38734d71c31ee7f94", func := "newsstand/newsstandlaw08.XmlNothing", spec := "xmlNothing", inPlace := ["internal/bytealg.IndexByteString", "internal/bytealg.IndexString", "internal/abi.NoEscape"], unfollowed := true, recurses := true, named := ["internal/bytealg.MaxLen"], apart := false, narrowed := true }
def XmlNothingUptoSaid : Prop := xmlNothingUptoRow.holds Try.pinned (OpenSpec.upto xmlNothingSpec)

end Rows
end Go.Proofs.Ytnagckdaleafdaa
