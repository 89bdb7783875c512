/-
  The kinds' names, out of what a row's list gives of event.names.
-/
import Derived.Test.YtchcedoaiihnmaaGreatDoorNam
import Derived.Lib.LaidTab
namespace Go.Proofs.YtchcedoaiihnmaaGreatDoor
open Go.RowKit Go.Nst
set_option maxRecDepth 100000
set_option linter.unusedVariables false
set_option linter.unusedSimpArgs false

/-- an array of strings that reads so holds these strings -/
theorem cells_of_strs {H : Type} {enc : TypeId × Value → H} {P : Program} {w : World} {base : Nat} {sp : Nat → Bool} {held : Bool} {fuel : Nat} {t e : TypeId} {n : Nat} {cs : List Value} {ss : List (List UInt8)} {p : List MemPlace}
    (ht : P.underlying t = some (.array n e)) (he : P.underlying e = some .string) (hce : P.cellsOf e = 1) (hct : P.cellsOf t = n)
    (h : DataW.trod enc P w base sp held fuel t cs = some ((.agg (ss.map fun s => .lit (.string s)) : DataW H), p)) : cs = ss.map fun s => Value.string ⟨s.toArray⟩ := by
  cases fuel with
  | zero => simp [DataW.trod] at h
  | succ fuel =>
    simp only [DataW.trod, ht, hce, hct, Nat.mul_one] at h
    split at h
    · rename_i hl
      obtain ⟨xs, hm, hx⟩ := Option.map_eq_some_iff.1 h
      have hxs : xs.map (·.1) = ss.map fun s => (DataW.lit (.string s) : DataW H) := by simpa using congrArg Prod.fst hx
      have hxl : xs.length = n := by simpa using Lib.mapM_length hm
      have hsl : ss.length = n := by have := congrArg List.length hxs; simp at this; omega
      apply List.ext_getElem?
      intro i
      by_cases hi : i < n
      · obtain ⟨b, hb, hf⟩ := Lib.mapM_at hm i i (by simp [hi])
        obtain ⟨s, hc, rfl, _⟩ := DataW.trod_string he hf
        have h1 : cs[i]? = some (.string s) := by
          have := congrArg (·[0]?) hc
          simpa [List.getElem?_take, List.getElem?_drop] using this
        have h2 : (ss.map fun s => (DataW.lit (.string s) : DataW H))[i]? = some (DataW.lit (.string s.data.toList)) := by rw [← hxs]; simp [hb]
        simp only [List.getElem?_map, Option.map_eq_some_iff, DataW.lit.injEq, Lit.string.injEq] at h2
        obtain ⟨s', hs', e'⟩ := h2
        rw [h1, List.getElem?_map, hs', e']
        simp
      · rw [List.getElem?_eq_none (by omega), List.getElem?_eq_none (by simp; omega)]
    · cases h
theorem strs_of_head {P : Program} {W : World} {name : String} {ss : List (List UInt8)} {rest : List (String × DataW Unit)} {g : Nat} {t e : TypeId} {n : Nat}
    (hg : P.globalNamed name = some g) (hty : (P.globals[g]?).map (·.type) = some t) (ht : P.underlying t = some (.array n e)) (he : P.underlying e = some .string) (hce : P.cellsOf e = 1) (hct : P.cellsOf t = n)
    (h : laidMet P ((name, .agg (ss.map fun s => .lit (.string s))) :: rest) W) : W.var? P name = some (ss.map fun s => Value.string ⟨s.toArray⟩).toArray := by
  obtain ⟨ps, ⟨g', t', cs, fuel, p, q, hg', ht', hvar, hd, _, _⟩, _⟩ := h
  obtain rfl := Option.some.inj (hg.symm.trans hg')
  obtain rfl := Option.some.inj (hty.symm.trans ht')
  rw [hvar, ← cells_of_strs ht he hce hct hd]
theorem nms_of {W : World} {rest : List (String × DataW Unit)} (h : laidMet Tryz.prog (("newsstand/event.names", .agg ([nameL 0, nameL 1, nameL 2, nameL 3, nameL 4, nameL 5, nameL 6, nameL 7, nameL 8, nameL 9, nameL 10, nameL 11, nameL 12, nameL 13].map fun s => .lit (.string s))) :: rest) W) : Nms W := by
  have hv := strs_of_head (show Tryz.prog.globalNamed "newsstand/event.names" = some 0 by kernel_rfl) (show (Tryz.prog.globals[0]?).map (·.type) = some 36 by kernel_rfl) Tryz.underlying36 Tryz.underlying9 (by kernel_rfl) (by kernel_rfl) h
  intro k hk
  have := World.var?_cell (show Tryz.prog.globalNamed "newsstand/event.names" = some 0 by kernel_rfl) hv k
  rw [this]
  rcases (by omega : k = 0 ∨ k = 1 ∨ k = 2 ∨ k = 3 ∨ k = 4 ∨ k = 5 ∨ k = 6 ∨ k = 7 ∨ k = 8 ∨ k = 9 ∨ k = 10 ∨ k = 11 ∨ k = 12 ∨ k = 13) with rfl | rfl | rfl | rfl | rfl | rfl | rfl | rfl | rfl | rfl | rfl | rfl | rfl | rfl <;> rfl
end Go.Proofs.YtchcedoaiihnmaaGreatDoor
