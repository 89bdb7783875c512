/-
  NARROWER THAN 'FOR EVERY INPUT', by the rows' own cells (each row's printed sentence says how): CrcSums: laid · CrcMores: laid · CrcSeals: laid · CrcTurns: laid · FramePuts: laid · FrameNexts: laid · FrameScans: laid · FrameCuts: laid.
  DERIVED. THE GIVEN ROWS OF THIS SEAT. 8 by the template 'for every input the law returns true; each argument reads behind the call as it read before'; 0 by the template 'total and deterministic' (their statements: YtgklbejnbplbgaaDoorTotals.lean).
  GIVEN WITH THE SEED: the statements are not yours to turn. If you find one false, say at which input.
  Laid BY PROGRAM, IN A SANDBOX (cutbox-rows.mjs): the forced cells as the released guide's own fill.sh prints them over the translation 283941085c5a03f6… (all of the seat's roots in one cut). By AI agents, Wed Nov 11 2026. No macro, syntax, notation, axiom, sorry.
-/
import Derived.Test.YtgklbejnbplbgaaDoorChecked
import GoSem.Claim
import GoSem.ClaimJoined
import GoSem.ClaimMapViews
import Derived.JoinedTies
import Derived.KernelRfl
namespace Go.Proofs.YtgklbejnbplbgaaDoor
/- THE CELL 'sum', in the pinned program and in every row, IS THE sha256 OF THE DUMP (.gsa) THAT YtgklbejnbplbgaaDoorProg.lean LOADS. Nothing in Lean hashes anything: it is a label: what it is worth is what the hold of that sum in a sandbox is worth. -/
noncomputable def Tryd.pinned : Pinned := { name := "ytgklbejnbplbgaadoor", sum := "283941085c5a03f63d504b3466cbba70105d503a94f78784d59e22ee88bc3c67", checked := Tryd.checked }
namespace Rows
def none {H : Type} : Left H := { results := [], args := [] }

/- WHAT THE LISTED PACKAGE-LEVEL VARIABLES READ AS WHEN THE CALL BEGINS. Each datum BY PROGRAM (the guide's laid-datum.mjs) off the statement by which the dump's own 'gosem.cut.vars' lays the variable. In a bare row this is a premise. The card (YtgklbejnbplbgaaDoorCards.lean) ties it to the program's text. -/
def laid_newsstand_crc_halves {H : Type} : DataW H := .agg [.lit (.int .u32 0), .lit (.int .u32 498536548), .lit (.int .u32 997073096), .lit (.int .u32 651767980), .lit (.int .u32 1994146192), .lit (.int .u32 1802195444), .lit (.int .u32 1303535960), .lit (.int .u32 1342533948), .lit (.int .u32 3988292384), .lit (.int .u32 4027552580), .lit (.int .u32 3604390888), .lit (.int .u32 3412177804), .lit (.int .u32 2607071920), .lit (.int .u32 2262029012), .lit (.int .u32 2685067896), .lit (.int .u32 3183342108)]

/-- 'newsstandlaw02.CrcSums': WHATEVER THE INPUT: true; the input reads as it did. -/
def crcSumsSpec : ChangeSpec := { name := "crcSums", fn := fun _ => fun
  | [d1, d2] => { results := [.lit (.bool true)], args := [d1, d2] }
  | _ => none }
def crcSumsRow : OpenClaim := { program := "ytgklbejnbplbgaadoor", sum := "283941085c5a03f63d504b3466cbba70105d503a94f78784d59e22ee88bc3c67", func := "newsstand/newsstandlaw02.CrcSums", spec := "crcSums", named := ["newsstand/crc.halves"], apart := false, laid := [("newsstand/crc.halves", laid_newsstand_crc_halves)] }
def CrcSumsSaid : Prop := crcSumsRow.holds Tryd.pinned (OpenSpec.ofChange crcSumsSpec)

/-- ITS FALSE NEIGHBOUR: 'it returns false'. Refute it at one input. -/
def crcSumsWrong : ChangeSpec := { name := "crcSums", fn := fun _ => fun
  | [d1, d2] => { results := [.lit (.bool false)], args := [d1, d2] }
  | _ => none }
def CrcSumsWrongFalsely : Prop := crcSumsRow.holds Tryd.pinned (OpenSpec.ofChange crcSumsWrong)

/-- 'newsstandlaw02.CrcMores': WHATEVER THE INPUT: true; the input reads as it did. -/
def crcMoresSpec : ChangeSpec := { name := "crcMores", fn := fun _ => fun
  | [d1, d2] => { results := [.lit (.bool true)], args := [d1, d2] }
  | _ => none }
def crcMoresRow : OpenClaim := { program := "ytgklbejnbplbgaadoor", sum := "283941085c5a03f63d504b3466cbba70105d503a94f78784d59e22ee88bc3c67", func := "newsstand/newsstandlaw02.CrcMores", spec := "crcMores", named := ["newsstand/crc.halves"], apart := false, laid := [("newsstand/crc.halves", laid_newsstand_crc_halves)] }
def CrcMoresSaid : Prop := crcMoresRow.holds Tryd.pinned (OpenSpec.ofChange crcMoresSpec)

/-- ITS FALSE NEIGHBOUR: 'it returns false'. Refute it at one input. -/
def crcMoresWrong : ChangeSpec := { name := "crcMores", fn := fun _ => fun
  | [d1, d2] => { results := [.lit (.bool false)], args := [d1, d2] }
  | _ => none }
def CrcMoresWrongFalsely : Prop := crcMoresRow.holds Tryd.pinned (OpenSpec.ofChange crcMoresWrong)

/-- 'newsstandlaw02.CrcSeals': WHATEVER THE INPUT: true; the input reads as it did. -/
def crcSealsSpec : ChangeSpec := { name := "crcSeals", fn := fun _ => fun
  | [d1, d2] => { results := [.lit (.bool true)], args := [d1, d2] }
  | _ => none }
def crcSealsRow : OpenClaim := { program := "ytgklbejnbplbgaadoor", sum := "283941085c5a03f63d504b3466cbba70105d503a94f78784d59e22ee88bc3c67", func := "newsstand/newsstandlaw02.CrcSeals", spec := "crcSeals", named := ["newsstand/crc.halves"], apart := false, laid := [("newsstand/crc.halves", laid_newsstand_crc_halves)] }
def CrcSealsSaid : Prop := crcSealsRow.holds Tryd.pinned (OpenSpec.ofChange crcSealsSpec)

/-- ITS FALSE NEIGHBOUR: 'it returns false'. Refute it at one input. -/
def crcSealsWrong : ChangeSpec := { name := "crcSeals", fn := fun _ => fun
  | [d1, d2] => { results := [.lit (.bool false)], args := [d1, d2] }
  | _ => none }
def CrcSealsWrongFalsely : Prop := crcSealsRow.holds Tryd.pinned (OpenSpec.ofChange crcSealsWrong)

/-- 'newsstandlaw02.CrcTurns': WHATEVER THE INPUT: true; the input reads as it did. -/
def crcTurnsSpec : ChangeSpec := { name := "crcTurns", fn := fun _ => fun
  | [d1, d2, d3] => { results := [.lit (.bool true)], args := [d1, d2, d3] }
  | _ => none }
def crcTurnsRow : OpenClaim := { program := "ytgklbejnbplbgaadoor", sum := "283941085c5a03f63d504b3466cbba70105d503a94f78784d59e22ee88bc3c67", func := "newsstand/newsstandlaw02.CrcTurns", spec := "crcTurns", named := ["newsstand/crc.halves"], apart := false, laid := [("newsstand/crc.halves", laid_newsstand_crc_halves)] }
def CrcTurnsSaid : Prop := crcTurnsRow.holds Tryd.pinned (OpenSpec.ofChange crcTurnsSpec)

/-- ITS FALSE NEIGHBOUR: 'it returns false'. Refute it at one input. -/
def crcTurnsWrong : ChangeSpec := { name := "crcTurns", fn := fun _ => fun
  | [d1, d2, d3] => { results := [.lit (.bool false)], args := [d1, d2, d3] }
  | _ => none }
def CrcTurnsWrongFalsely : Prop := crcTurnsRow.holds Tryd.pinned (OpenSpec.ofChange crcTurnsWrong)

/-- 'newsstandlaw17.FramePuts': WHATEVER THE INPUT: true; the input reads as it did. -/
def framePutsSpec : ChangeSpec := { name := "framePuts", fn := fun _ => fun
  | [d1, d2] => { results := [.lit (.bool true)], args := [d1, d2] }
  | _ => none }
def framePutsRow : OpenClaim := { program := "ytgklbejnbplbgaadoor", sum := "283941085c5a03f63d504b3466cbba70105d503a94f78784d59e22ee88bc3c67", func := "newsstand/newsstandlaw17.FramePuts", spec := "framePuts", named := ["newsstand/crc.halves"], apart := false, laid := [("newsstand/crc.halves", laid_newsstand_crc_halves)] }
def FramePutsSaid : Prop := framePutsRow.holds Tryd.pinned (OpenSpec.ofChange framePutsSpec)

/-- ITS FALSE NEIGHBOUR: 'it returns false'. Refute it at one input. -/
def framePutsWrong : ChangeSpec := { name := "framePuts", fn := fun _ => fun
  | [d1, d2] => { results := [.lit (.bool false)], args := [d1, d2] }
  | _ => none }
def FramePutsWrongFalsely : Prop := framePutsRow.holds Tryd.pinned (OpenSpec.ofChange framePutsWrong)

/-- 'newsstandlaw17.FrameNexts': WHATEVER THE INPUT: true; the input reads as it did. -/
def frameNextsSpec : ChangeSpec := { name := "frameNexts", fn := fun _ => fun
  | [d] => { results := [.lit (.bool true)], args := [d] }
  | _ => none }
def frameNextsRow : OpenClaim := { program := "ytgklbejnbplbgaadoor", sum := "283941085c5a03f63d504b3466cbba70105d503a94f78784d59e22ee88bc3c67", func := "newsstand/newsstandlaw17.FrameNexts", spec := "frameNexts", named := ["newsstand/crc.halves"], apart := false, laid := [("newsstand/crc.halves", laid_newsstand_crc_halves)] }
def FrameNextsSaid : Prop := frameNextsRow.holds Tryd.pinned (OpenSpec.ofChange frameNextsSpec)

/-- ITS FALSE NEIGHBOUR: 'it returns false'. Refute it at one input. -/
def frameNextsWrong : ChangeSpec := { name := "frameNexts", fn := fun _ => fun
  | [d] => { results := [.lit (.bool false)], args := [d] }
  | _ => none }
def FrameNextsWrongFalsely : Prop := frameNextsRow.holds Tryd.pinned (OpenSpec.ofChange frameNextsWrong)

/-- 'newsstandlaw17.FrameScans': WHATEVER THE INPUT: true; the input reads as it did. -/
def frameScansSpec : ChangeSpec := { name := "frameScans", fn := fun _ => fun
  | [d] => { results := [.lit (.bool true)], args := [d] }
  | _ => none }
def frameScansRow : OpenClaim := { program := "ytgklbejnbplbgaadoor", sum := "283941085c5a03f63d504b3466cbba70105d503a94f78784d59e22ee88bc3c67", func := "newsstand/newsstandlaw17.FrameScans", spec := "frameScans", named := ["newsstand/crc.halves"], apart := false, laid := [("newsstand/crc.halves", laid_newsstand_crc_halves)] }
def FrameScansSaid : Prop := frameScansRow.holds Tryd.pinned (OpenSpec.ofChange frameScansSpec)

/-- ITS FALSE NEIGHBOUR: 'it returns false'. Refute it at one input. -/
def frameScansWrong : ChangeSpec := { name := "frameScans", fn := fun _ => fun
  | [d] => { results := [.lit (.bool false)], args := [d] }
  | _ => none }
def FrameScansWrongFalsely : Prop := frameScansRow.holds Tryd.pinned (OpenSpec.ofChange frameScansWrong)

/-- 'newsstandlaw17.FrameCuts': WHATEVER THE INPUT: true; the input reads as it did. -/
def frameCutsSpec : ChangeSpec := { name := "frameCuts", fn := fun _ => fun
  | [d1, d2] => { results := [.lit (.bool true)], args := [d1, d2] }
  | _ => none }
def frameCutsRow : OpenClaim := { program := "ytgklbejnbplbgaadoor", sum := "283941085c5a03f63d504b3466cbba70105d503a94f78784d59e22ee88bc3c67", func := "newsstand/newsstandlaw17.FrameCuts", spec := "frameCuts", named := ["newsstand/crc.halves"], apart := false, laid := [("newsstand/crc.halves", laid_newsstand_crc_halves)] }
def FrameCutsSaid : Prop := frameCutsRow.holds Tryd.pinned (OpenSpec.ofChange frameCutsSpec)

/-- ITS FALSE NEIGHBOUR: 'it returns false'. Refute it at one input. -/
def frameCutsWrong : ChangeSpec := { name := "frameCuts", fn := fun _ => fun
  | [d1, d2] => { results := [.lit (.bool false)], args := [d1, d2] }
  | _ => none }
def FrameCutsWrongFalsely : Prop := frameCutsRow.holds Tryd.pinned (OpenSpec.ofChange frameCutsWrong)

/- THE SECOND FORM. 'bulk': how many values and letters a reading holds, each counted each time it is reached (what is shared counts as often as it is met; a slice's spare places count too). A statement '..UptoSaid' is the law's where the arguments, and the package variables that the reading takes, are together of bulk at most 1048576: NARROWER than '..Said'. Prove '..Said' where nothing that the law and all that it calls make is longer than what came in: it says more and counts as full. Else prove '..UptoSaid'. A law counts once. -/
mutual
def uptoBulk {H : Type} : DataW H → Nat
  | .lit (.string bytes) => bytes.length + 1
  | .lit _ => 1
  | .nil => 1
  | .ptr d => uptoBulk d + 1
  | .slice elems spare => uptoBulkAll elems + uptoBulkAll spare + 1
  | .agg parts => uptoBulkAll parts + 1
  | .iface _ d => uptoBulk d + 1
  | .map entries => uptoBulkEntries entries + 1
  | .held _ => 1
def uptoBulkAll {H : Type} : List (DataW H) → Nat
  | [] => 0
  | d :: r => uptoBulk d + uptoBulkAll r
def uptoBulkEntries {H : Type} : List (Lit × DataW H) → Nat
  | [] => 0
  | x :: r => uptoBulkEntry x + uptoBulkEntries r
def uptoBulkEntry {H : Type} : Lit × DataW H → Nat
  | (.string bytes, d) => bytes.length + uptoBulk d + 1
  | (_, d) => uptoBulk d + 1
 end
def uptoSmall : (H : Type) → List (DataW H) → Bool := fun _ ds => decide (uptoBulkAll ds ≤ 1048576)
def OpenSpec.upto (s : _root_.Go.ChangeSpec) : _root_.Go.OpenSpec := { _root_.Go.OpenSpec.ofChange s with cond := some uptoSmall }

/-- 'newsstandlaw02.CrcSums', WHERE WHAT IT READS IS OF BULK AT MOST 1048576: true; the input reads as it did. -/
def crcSumsUptoRow : OpenClaim := { program := "ytgklbejnbplbgaadoor", sum := "283941085c5a03f63d504b3466cbba70105d503a94f78784d59e22ee88bc3c67", func := "newsstand/newsstandlaw02.CrcSums", spec := "crcSums", named := ["newsstand/crc.halves"], apart := false, laid := [("newsstand/crc.halves", laid_newsstand_crc_halves)], narrowed := true }
def CrcSumsUptoSaid : Prop := crcSumsUptoRow.holds Tryd.pinned (OpenSpec.upto crcSumsSpec)

/-- 'newsstandlaw02.CrcMores', WHERE WHAT IT READS IS OF BULK AT MOST 1048576: true; the input reads as it did. -/
def crcMoresUptoRow : OpenClaim := { program := "ytgklbejnbplbgaadoor", sum := "283941085c5a03f63d504b3466cbba70105d503a94f78784d59e22ee88bc3c67", func := "newsstand/newsstandlaw02.CrcMores", spec := "crcMores", named := ["newsstand/crc.halves"], apart := false, laid := [("newsstand/crc.halves", laid_newsstand_crc_halves)], narrowed := true }
def CrcMoresUptoSaid : Prop := crcMoresUptoRow.holds Tryd.pinned (OpenSpec.upto crcMoresSpec)

/-- 'newsstandlaw02.CrcSeals', WHERE WHAT IT READS IS OF BULK AT MOST 1048576: true; the input reads as it did. -/
def crcSealsUptoRow : OpenClaim := { program := "ytgklbejnbplbgaadoor", sum := "283941085c5a03f63d504b3466cbba70105d503a94f78784d59e22ee88bc3c67", func := "newsstand/newsstandlaw02.CrcSeals", spec := "crcSeals", named := ["newsstand/crc.halves"], apart := false, laid := [("newsstand/crc.halves", laid_newsstand_crc_halves)], narrowed := true }
def CrcSealsUptoSaid : Prop := crcSealsUptoRow.holds Tryd.pinned (OpenSpec.upto crcSealsSpec)

/-- 'newsstandlaw02.CrcTurns', WHERE WHAT IT READS IS OF BULK AT MOST 1048576: true; the input reads as it did. -/
def crcTurnsUptoRow : OpenClaim := { program := "ytgklbejnbplbgaadoor", sum := "283941085c5a03f63d504b3466cbba70105d503a94f78784d59e22ee88bc3c67", func := "newsstand/newsstandlaw02.CrcTurns", spec := "crcTurns", named := ["newsstand/crc.halves"], apart := false, laid := [("newsstand/crc.halves", laid_newsstand_crc_halves)], narrowed := true }
def CrcTurnsUptoSaid : Prop := crcTurnsUptoRow.holds Tryd.pinned (OpenSpec.upto crcTurnsSpec)

/-- 'newsstandlaw17.FramePuts', WHERE WHAT IT READS IS OF BULK AT MOST 1048576: true; the input reads as it did. -/
def framePutsUptoRow : OpenClaim := { program := "ytgklbejnbplbgaadoor", sum := "283941085c5a03f63d504b3466cbba70105d503a94f78784d59e22ee88bc3c67", func := "newsstand/newsstandlaw17.FramePuts", spec := "framePuts", named := ["newsstand/crc.halves"], apart := false, laid := [("newsstand/crc.halves", laid_newsstand_crc_halves)], narrowed := true }
def FramePutsUptoSaid : Prop := framePutsUptoRow.holds Tryd.pinned (OpenSpec.upto framePutsSpec)

/-- 'newsstandlaw17.FrameNexts', WHERE WHAT IT READS IS OF BULK AT MOST 1048576: true; the input reads as it did. -/
def frameNextsUptoRow : OpenClaim := { program := "ytgklbejnbplbgaadoor", sum := "283941085c5a03f63d504b3466cbba70105d503a94f78784d59e22ee88bc3c67", func := "newsstand/newsstandlaw17.FrameNexts", spec := "frameNexts", named := ["newsstand/crc.halves"], apart := false, laid := [("newsstand/crc.halves", laid_newsstand_crc_halves)], narrowed := true }
def FrameNextsUptoSaid : Prop := frameNextsUptoRow.holds Tryd.pinned (OpenSpec.upto frameNextsSpec)

/-- 'newsstandlaw17.FrameScans', WHERE WHAT IT READS IS OF BULK AT MOST 1048576: true; the input reads as it did. -/
def frameScansUptoRow : OpenClaim := { program := "ytgklbejnbplbgaadoor", sum := "283941085c5a03f63d504b3466cbba70105d503a94f78784d59e22ee88bc3c67", func := "newsstand/newsstandlaw17.FrameScans", spec := "frameScans", named := ["newsstand/crc.halves"], apart := false, laid := [("newsstand/crc.halves", laid_newsstand_crc_halves)], narrowed := true }
def FrameScansUptoSaid : Prop := frameScansUptoRow.holds Tryd.pinned (OpenSpec.upto frameScansSpec)

/-- 'newsstandlaw17.FrameCuts', WHERE WHAT IT READS IS OF BULK AT MOST 1048576: true; the input reads as it did. -/
def frameCutsUptoRow : OpenClaim := { program := "ytgklbejnbplbgaadoor", sum := "283941085c5a03f63d504b3466cbba70105d503a94f78784d59e22ee88bc3c67", func := "newsstand/newsstandlaw17.FrameCuts", spec := "frameCuts", named := ["newsstand/crc.halves"], apart := false, laid := [("newsstand/crc.halves", laid_newsstand_crc_halves)], narrowed := true }
def FrameCutsUptoSaid : Prop := frameCutsUptoRow.holds Tryd.pinned (OpenSpec.upto frameCutsSpec)

end Rows
end Go.Proofs.YtgklbejnbplbgaaDoor
