/-
  The document's dates of the mail.
-/
import Derived.Test.YtjmmgekildlckaaDtF
import Derived.Test.YtjmmgekildlckaaDtU
import Derived.Test.YtjmmgekildlckaaTak
import Derived.Deep.DeepCutAuto
import Derived.Deep.CutBlock
namespace Go.Proofs.Ytjmmgekildlckaa
open Go.RowKit Go.Nst
set_option maxRecDepth 100000
set_option linter.unusedVariables false
set_option linter.unusedSimpArgs false

theorem Ss.cell {W : World} {g off n k : Nat} {L : List (List UInt8)} {x : List UInt8} (h : Ss W (some ⟨g, off, none⟩) n L) (hx : L[k]? = some x) : W.cell? ⟨g, off + k, none⟩ = some (.string ⟨x.toArray⟩) := by
  have hk : k < n := by
    have h1 := (List.getElem?_eq_some_iff.1 hx).1
    rw [h.len] at h1
    exact h1
  obtain ⟨y, b, o, e, hy, _, hc⟩ := Ss.at h hk
  injection e with e
  injection e with e1 e2
  subst e1 e2
  have hy := hy.out
  rw [hx] at hy
  injection hy with hy
  rw [hy]
  exact hc
theorem rs_cell {W : World} {B g off n k : Nat} {L : List (List UInt8)} {x : List UInt8} (h : Reads W B 1 (some ⟨g, off, none⟩) n (sv L)) (hx : L[k]? = some x) : W.cell? ⟨g, off + k, none⟩ = some (.string ⟨x.toArray⟩) := by
  have hl : L.length = n := by have := h.1; simpa [sv] using this
  have hk : k < n := by
    have h1 := (List.getElem?_eq_some_iff.1 hx).1
    omega
  obtain ⟨u, b, o, e, hu, _, hc⟩ := Reads.plain h hk
  injection e with e
  injection e with e1 e2
  subst e1 e2
  have hu := hu.out
  rw [sv, List.getElem?_map, hx] at hu
  simp at hu
  rw [← hu] at hc
  exact hc
theorem Ss.cut1 {W : World} {A : Option Addr} {n c : Nat} {L : List (List UInt8)} (h : Ss W A n L) (hn : 1 ≤ n) (hc : n ≤ c) (h1 : c ≠ 1) : Ss W (A.map (·.add 1)) (n - 1) (L.drop 1) := by
  have := Reads.cut h hn hc
  rw [if_neg h1] at this
  unfold Ss sv
  simpa [sv, List.map_drop] using this
theorem mail5R_len {w : List (List UInt8)} (h : w.length ≠ 5) : mail5R w = none := by
  match w with
  | [] => rfl
  | [_] => rfl
  | [_, _] => rfl
  | [_, _, _] => rfl
  | [_, _, _, _] => rfl
  | [_, _, _, _, _] => exact absurd rfl h
  | _ :: _ :: _ :: _ :: _ :: _ :: _ => rfl
theorem two_of {α : Type} {l : List α} (h : l.length = 2) : ∃ a b, l = [a, b] := by
  match l, h with
  | [a, b], _ => exact ⟨a, b, rfl⟩
theorem three_of {α : Type} {l : List α} (h : l.length = 3) : ∃ a b c, l = [a, b, c] := by
  match l, h with
  | [a, b, c], _ => exact ⟨a, b, c, rfl⟩
theorem numR_bd (l : List UInt8) : -1 ≤ numR l ∧ numR l ≤ 1000000000 := by
  unfold numR
  split
  · rename_i h
    have h1 := numL_in h.2.2
    have h2 : (10 : Int) ^ l.length ≤ 10 ^ 9 := by
      have h9 : l.length ≤ 9 := h.2.1
      generalize l.length = k at h9
      rcases (by omega : k = 0 ∨ k = 1 ∨ k = 2 ∨ k = 3 ∨ k = 4 ∨ k = 5 ∨ k = 6 ∨ k = 7 ∨ k = 8 ∨ k = 9) with rfl | rfl | rfl | rfl | rfl | rfl | rfl | rfl | rfl | rfl <;> decide
    have h3 : (10 : Int) ^ 9 = 1000000000 := by decide
    omega
  · omega
theorem Ss.blk {W : World} {g n : Nat} {L : List (List UInt8)} {cs : Array Value} {t : TypeId} (h : Blk W g t cs) (hn : L.length = n) (hcs : cs.toList = sv L) : Ss W (some ⟨g, 0, none⟩) n L := by
  refine ⟨by simp [sv]; omega, fun _ => ⟨_, rfl, h.lt, fun j u hu => ?_⟩⟩
  rw [add_lit, Nat.zero_add, h.cell j]
  rw [← hcs] at hu
  simpa using hu
def secR (P : List (List UInt8)) : Int := if P.length = 3 then numR (P.getD 2 []) else 0
theorem mail5R_at (a b c d e : List UInt8) (h1 : ¬ (2 < a.length ∨ (c.length ≠ 4 ∧ c.length ≠ 2))) : mail5R [a, b, c, d, e] = if ((splitL 58 d).length ≠ 2 ∧ (splitL 58 d).length ≠ 3) ∨ (∃ p ∈ splitL 58 d, p.length ≠ 2) then none
    else match zoneM e with
      | none => none
      | some z => toldR ⟨yearR c, 1 + indexL namesM b, numR a, numR ((splitL 58 d).getD 0 []), numR ((splitL 58 d).getD 1 []), secR (splitL 58 d)⟩ z := by
  simp only [mail5R, secR]
  rw [if_neg h1]
  rfl
def any4R (l : List UInt8) : Option Int := match webR l with
  | some n => some n
  | none => mailR l
theorem any_same (l : List UInt8) : anyC l = any4R l := by
  unfold anyC any4R
  rw [web_same, mail_same]
  rfl
end Go.Proofs.Ytjmmgekildlckaa
