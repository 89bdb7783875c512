/-
  Dates of any kind: Any.
-/
import Derived.Test.YtobidipkgaaecaaDoorDtU
namespace Go.Proofs.YtobidipkgaaecaaDoor
open Go.RowKit Go.Nst
set_option maxRecDepth 100000
set_option linter.unusedVariables false
set_option linter.unusedSimpArgs false

set_option maxHeartbeats 4000000 in
theorem any4_any (l : List UInt8) (m : Int) (w : World) (hl : l.length ≤ 100000) (hm : w.cell? ⟨0, 0, none⟩ = some (.int .i64 m)) :
    Calls Tryd.prog 18 #[.string ⟨l.toArray⟩] w (fun e w' => e = .returned (tOut (anyC l)) ∧ Below w.heap.size w w') := by
  have HW := Lib.hid (web_any l w hl)
  have HM := Lib.hid (fun W (h : Below w.heap.size w W) => mail_any l m W hl ((h.cell (World.block_lt_of_cell? w _ hm)).trans hm))
  have HA : Hid (anyC l = match webC l with | some n => some n | none => mailC l) := rfl
  cases hw : webC l with
  | some n =>
    rw [hw] at HW HA
    have hA := HA.out
    simp only at hA
    rw [hA]
    simp only [tOut, Option.getD_some, Option.isSome_some, if_true] at HW ⊢
    clear HA hA hw
    go_enter Tryd.func18, Tryd.ntmps18
    go_wp2_with fail
    (with_reducible refine (HW.out).mono ?_)
    rintro e w1 ⟨rfl, hb1⟩
    go_wp2_with fail
    go_ret2
    exact ⟨rfl, hb1⟩
  | none =>
    rw [hw] at HW HA
    have hA := HA.out
    simp only at hA
    rw [hA]
    obtain ⟨en, hen⟩ : ∃ en : Int, (if (mailC l).isSome = true then (0 : Int) else 40) = en := ⟨_, rfl⟩
    obtain ⟨nn, hnn⟩ : ∃ nn : Int, (mailC l).getD 0 = nn := ⟨_, rfl⟩
    simp only [tOut, hen, hnn] at HM ⊢
    simp only [tOut, Option.getD_none, Option.isSome_none, Bool.false_eq_true, if_false] at HW
    clear HA hA hw hen hnn
    go_enter Tryd.func18, Tryd.ntmps18
    go_wp2_with fail
    (with_reducible refine (HW.out).mono ?_)
    rintro e w1 ⟨rfl, hb1⟩
    go_wp2_with fail
    (with_reducible refine (HM.out _ hb1).mono ?_)
    rintro e w2 ⟨rfl, hb2⟩
    go_wp2_with fail
    go_ret2
    exact ⟨rfl, bel_step hb1 hb2⟩
end Go.Proofs.YtobidipkgaaecaaDoor
