/-
  The date of an element: the code's and the document's; the first text that is not empty.
-/
import Derived.Test.YtjmmgekildlckaaRsC
import Derived.Test.YtjmmgekildlckaaDtV
import Derived.Test.YtjmmgekildlckaaDtO
import Derived.Test.YtjmmgekildlckaaDtH
import Derived.Test.YtjmmgekildlckaaStl
import Derived.Test.YtjmmgekildlckaaTak
import Derived.Deep.DeepCutAuto
import Derived.Deep.CutBlock
namespace Go.Proofs.Ytjmmgekildlckaa
open Go.ChangeShapes Go.WideShapes Go.ChangeAt Go.Deep
open Go.RowKit Go.Nst
set_option maxRecDepth 100000
set_option linter.unusedVariables false
set_option linter.unusedSimpArgs false

theorem laterE {w : World} {B : Nat} {p : Addr} {u : Value} (h : w.cell? p = some u) (hp : p.block < B) : ∀ W, Below B w W → W.cell? p = some u := fun W hW => (hW.cell hp).trans h
/-- the first text that is not empty -/
def firstNe : List (List UInt8) → List UInt8
  | [] => []
  | a :: r => if a = [] then firstNe r else a
theorem firstNe_at {L : List (List UInt8)} {k : Nat} {x : List UInt8} (hg : L[k]? = some x) : firstNe (L.drop k) = if x = [] then firstNe (L.drop (k + 1)) else x := by
  obtain ⟨hl, hv⟩ := List.getElem?_eq_some_iff.1 hg
  rw [List.drop_eq_getElem_cons hl, hv]
  simp only [firstNe]
theorem ne_b {x : List UInt8} (h : ¬ x = []) : ((⟨x.toArray⟩ : ByteArray) == ⟨#[]⟩) = false ∧ x.isEmpty = false := by
  cases x with
  | nil => exact absurd rfl h
  | cons a b => exact ⟨rfl, rfl⟩
theorem orS_any (A : Option Addr) (n c : Nat) (L : List (List UInt8)) (w : World) (hL : Ss w A n L) (hn : n ≤ 1000) :
    Calls Try.prog 20 #[.slice A n c] w fun e w' => e = .returned (.string ⟨(firstNe L).toArray⟩) ∧ w' = w := by
  have HL := Lib.hid hL
  have HLN := Lib.hid hL.len
  clear hL
  go_enter Try.func20, Try.ntmps20
  go_wp2_with fail
  go_loopw [8] (fun i wr => ∃ k : Nat, k ≤ n ∧ i = .int .i64 k ∧ Hid (firstNe L = firstNe (L.drop k)) ∧ wr = w) (fun i _ => n - (intOf i).toNat)
  case atStart => exact ⟨0, Nat.zero_le _, rfl, Lib.hid (by simp), rfl⟩
  case round =>
    obtain ⟨k, hk, rfl, HF, rfl⟩ := hrel
    by_cases hlt : k < n
    · obtain ⟨x, b, off, rfl, HG, hbs, f0⟩ := HL.out.at hlt
      have hlt' : decide (k < n) = true := by simpa using hlt
      have hki : (k : Int) < (n : Int) := by omega
      have HN := Lib.hid (firstNe_at HG.out)
      by_cases hx : x = []
      · subst hx
        have HF2 : Hid (firstNe L = firstNe (L.drop (k + 1))) := Lib.hid (by rw [HF.out, HN.out, if_pos rfl])
        clear HF HN
        go_wp2_with fail
        go_roundw
        case rel => exact ⟨k + 1, by omega, by go_num, HF2, by first | trivial | rfl⟩
        case measure => simp [intOf] <;> omega
      · have HF2 : Hid (firstNe L = x) := Lib.hid (by rw [HF.out, HN.out, if_neg hx])
        obtain ⟨hx1, hx2⟩ := ne_b hx
        clear HF HN
        go_wp2_with fail
        go_ret
        exact ⟨by rw [HF2.out]; rfl, rfl⟩
    · obtain rfl : k = n := by omega
      have hlt' : decide (k < k) = false := by simp
      have HF2 : Hid (firstNe L = []) := Lib.hid (by rw [HF.out, List.drop_of_length_le (by rw [HLN.out]; exact Nat.le_refl _)]; rfl)
      clear HF
      go_wp2_with fail
      go_ret
      exact ⟨by rw [HF2.out]; rfl, rfl⟩
/-- the date of a kid -/
def mom1 (e : Elm) (s : List UInt8) : Option Int := if hasD e s = true then any4R (cleanT (kidD e s).tx) else none
/-- the first date of some kids -/
def momD (e : Elm) : List (List UInt8) → Option Int
  | [] => none
  | s :: r => match mom1 e s with
    | some n => some n
    | none => momD e r
theorem momD_some {e : Elm} {L : List (List UInt8)} {k : Nat} {x : List UInt8} (hg : L[k]? = some x) {n : Int} (h : mom1 e x = some n) : momD e (L.drop k) = some n := by
  obtain ⟨hl, hv⟩ := List.getElem?_eq_some_iff.1 hg
  rw [List.drop_eq_getElem_cons hl, hv]
  simp only [momD, h]
theorem momD_none {e : Elm} {L : List (List UInt8)} {k : Nat} {x : List UInt8} (hg : L[k]? = some x) (h : mom1 e x = none) : momD e (L.drop k) = momD e (L.drop (k + 1)) := by
  obtain ⟨hl, hv⟩ := List.getElem?_eq_some_iff.1 hg
  rw [List.drop_eq_getElem_cons hl, hv]
  simp only [momD, h]
end Go.Proofs.Ytjmmgekildlckaa
