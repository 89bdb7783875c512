/-
  The feed of an element: the code's and the document's.
-/
import Derived.Test.YtjmmgekildlckaaRsG
namespace Go.Proofs.Ytjmmgekildlckaa
open Go.ChangeShapes Go.WideShapes Go.ChangeAt Go.Deep
open Go.RowKit Go.Nst
set_option maxRecDepth 100000
set_option linter.unusedVariables false
set_option linter.unusedSimpArgs false

def sChan : List UInt8 := [99, 104, 97, 110, 110, 101, 108]
def sItem : List UInt8 := [105, 116, 101, 109]
def sRss : List UInt8 := [114, 115, 115]
/-- the entries of items, not too many -/
def entsD (l : List Elm) : List Ent := (l.filterMap entD).take 256
theorem fm_next {l : List Elm} {k : Nat} {q : Elm} (hg : l[k]? = some q) : (l.take (k + 1)).filterMap entD = (l.take k).filterMap entD ++ (entD q).toList := by
  rw [List.take_add_one, hg, List.filterMap_append]
  cases h : entD q <;> simp [h]
theorem ents_none {l : List Elm} {k : Nat} {q : Elm} (hg : l[k]? = some q) (h : entD q = none) : entsD (l.take (k + 1)) = entsD (l.take k) := by
  unfold entsD
  rw [fm_next hg, h]
  simp
theorem ents_some {l : List Elm} {k : Nat} {q : Elm} {x : Ent} (hg : l[k]? = some q) (h : entD q = some x) (hl : (entsD (l.take k)).length < 256) : entsD (l.take (k + 1)) = entsD (l.take k) ++ [x] := by
  unfold entsD at hl ⊢
  rw [fm_next hg, h]
  rw [List.length_take] at hl
  rw [List.take_of_length_le (l := (l.take k).filterMap entD) (by omega), List.take_of_length_le (by simp; omega)]
  rfl
theorem ents_full {l : List Elm} {k : Nat} {q : Elm} {x : Ent} (hg : l[k]? = some q) (h : entD q = some x) (hl : ¬ (entsD (l.take k)).length < 256) : entsD (l.take (k + 1)) = entsD (l.take k) := by
  unfold entsD at hl ⊢
  rw [fm_next hg, h]
  rw [List.length_take] at hl
  rw [List.take_append_of_le_length (by omega)]
theorem ents_le (l : List Elm) : (entsD l).length ≤ 256 := by
  unfold entsD
  rw [List.length_take]
  omega
def readD (e : Elm) : Option Docs := if hasD e sChan = true ∧ shortD e.nm = sRss then some ⟨fieldD (kidD e sChan) sTitle 256, fieldD (kidD e sChan) sLink 512, entsD (kidsD (kidD e sChan) sItem)⟩ else none
def zeroDoc : Docs := ⟨[], [], []⟩
def RetDo (w : World) (o : Option Docs) (e : Ending) (w' : World) : Prop := ∃ A n c, e = .returned (.tuple #[.agg #[.string ⟨(o.getD zeroDoc).ti.toArray⟩, .string ⟨(o.getD zeroDoc).li.toArray⟩, .slice A n c], .bool o.isSome]) ∧ EnA w' (fun _ => True) A n (o.getD zeroDoc).en ∧ n ≤ c ∧ c ≤ 9223372036854775807 ∧ Below w.heap.size w w'
theorem grown_belE {a b c : World} {g : Nat} (h : a.grownBy b (some g)) (k : Below a.heap.size b c) : a.grownBy c (some g) :=
  ⟨k.os.trans h.os, k.tape.trans h.tape, k.output.trans h.output, Nat.le_trans h.size k.size, fun i hi hne => (k.block i hi).trans (h.block i hi hne)⟩
theorem sm_kids {n : Nat} {e : Elm} (h : SmE (n + 1) e) (s : List UInt8) : ∀ k ∈ kidsD e s, SmE n k := fun k hk => h.2.2.2 k (List.mem_filter.1 hk).1
theorem sm_down : ∀ {n : Nat} {e : Elm}, SmE (n + 1) e → SmE n e
  | 0, _, _ => trivial
  | n + 1, e, h => ⟨h.1, h.2.1, h.2.2.1, fun k hk => sm_down (h.2.2.2 k hk)⟩
end Go.Proofs.Ytjmmgekildlckaa
