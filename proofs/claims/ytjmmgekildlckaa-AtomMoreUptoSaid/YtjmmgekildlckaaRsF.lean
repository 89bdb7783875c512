/-
  The entry of an element: the code's and the document's.
-/
import Derived.Test.YtjmmgekildlckaaRsE
namespace Go.Proofs.Ytjmmgekildlckaa
open Go.ChangeShapes Go.WideShapes Go.ChangeAt Go.Deep
open Go.RowKit Go.Nst
set_option maxRecDepth 100000
set_option linter.unusedVariables false
set_option linter.unusedSimpArgs false

/-- an entry -/
structure Ent where
  gu : List UInt8
  ti : List UInt8
  li : List UInt8
  da : Int
  dd : Bool
deriving DecidableEq
def enV (x : Ent) : Array Value := #[.string ⟨x.gu.toArray⟩, .string ⟨x.ti.toArray⟩, .string ⟨x.li.toArray⟩, .int .i64 x.da, .bool x.dd]
def zeroEnt : Ent := ⟨[], [], [], 0, false⟩
def sGuid : List UInt8 := [103, 117, 105, 100]
def sTitle : List UInt8 := [116, 105, 116, 108, 101]
def sLink : List UInt8 := [108, 105, 110, 107]
def pubD : List (List UInt8) := [[112, 117, 98, 68, 97, 116, 101], [100, 97, 116, 101]]
/-- what an item is told apart by -/
def guidD (e : Elm) : List UInt8 := firstNe [fieldD e sGuid 512, fieldD e sLink 512, fieldD e sTitle 256]
def entD (e : Elm) : Option Ent := if guidD e = [] then none else some ⟨guidD e, fieldD e sTitle 256, fieldD e sLink 512, (momD e pubD).getD 0, (momD e pubD).isSome⟩
def enT (o : Option Ent) : Value := .tuple #[.agg (enV (o.getD zeroEnt)), .bool o.isSome]
def RetEn (w : World) (o : Option Ent) (e : Ending) (w' : World) : Prop := e = .returned (enT o) ∧ Below w.heap.size w w'
/-- block g may change, but its cells behind the first stay -/
def OnE (g B : Nat) (w W : World) : Prop := Below B w W ∧ ∀ i, 1 ≤ i → W.cell? ⟨g, i, none⟩ = w.cell? ⟨g, i, none⟩
theorem OnE.refl (g B : Nat) (w : World) : OnE g B w w := ⟨Below.refl _ _, fun _ _ => rfl⟩
theorem OnE.trans {g B : Nat} (a b c : World) (h : OnE g B a b) (k : OnE g B b c) : OnE g B a c := ⟨Below.trans h.1 k.1, fun i hi => (k.2 i hi).trans (h.2 i hi)⟩
theorem OnE.of {g B : Nat} {w W : World} (hb : Below w.heap.size w W) (hg : g < w.heap.size) (hB : B ≤ w.heap.size) : OnE g B w W := ⟨hb.mono hB, fun i _ => hb.cell (p := ⟨g, i, none⟩) hg⟩
theorem OnE.set {g B : Nat} {w : World} {t : TypeId} {cs : Array Value} (h : Blk w g t cs) (hB : B ≤ g) (v : Value) : OnE g B w (w.setCell ⟨g, 0, none⟩ v) :=
  ⟨(Below.refl _ _).setCell (p := ⟨g, 0, none⟩) hB v, fun i hi => by
    rw [(h.set_ 0 v).cell i, h.cell i, Array.getElem?_setIfInBounds_ne (by omega)]⟩
def sv3 (a b c : List UInt8) : Array Value := #[.string ⟨a.toArray⟩, .string ⟨b.toArray⟩, .string ⟨c.toArray⟩]
end Go.Proofs.Ytjmmgekildlckaa
