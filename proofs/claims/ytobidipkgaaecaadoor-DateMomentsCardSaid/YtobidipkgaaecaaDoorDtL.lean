/-
  Dates: lives.
-/
import Derived.Test.YtobidipkgaaecaaDoorDtK
import Derived.Test.YtobidipkgaaecaaDoorDtV
namespace Go.Proofs.YtobidipkgaaecaaDoor
open Go.RowKit Go.Nst
set_option maxRecDepth 100000
set_option linter.unusedVariables false
set_option linter.unusedSimpArgs false

/-- the cell of internal/bytealg.MaxLen -/
def MM (m : Int) (w : World) : Prop := w.cell? ⟨0, 0, none⟩ = some (.int .i64 m)
theorem MM.keep {m : Int} {w W : World} (h : MM m w) (hb : Below w.heap.size w W) : MM m W := (hb.cell (p := ⟨0, 0, none⟩) (World.block_lt_of_cell? w _ h)).trans h
theorem lvW : webC [49, 57, 55, 48, 45, 48, 49, 45, 48, 50, 84, 48, 48, 58, 48, 48, 58, 48, 49, 90] = some 86401 := by decide +kernel
theorem lvM : mailC [70, 114, 105, 44, 32, 49, 51, 32, 70, 101, 98, 32, 50, 48, 48, 57, 32, 50, 51, 58, 51, 49, 58, 51, 48, 32, 71, 77, 84] = some 1234567890 := by decide +kernel
theorem lvA : anyC [50, 48, 48, 57, 45, 48, 50, 45, 49, 52, 84, 48, 49, 58, 51, 49, 58, 51, 48, 46, 53, 43, 48, 50, 58, 48, 48] = some 1234567890 := by decide +kernel
theorem lvB : anyC [50, 48, 48, 57, 45, 48, 50, 45, 51, 48, 84, 48, 49, 58, 51, 49, 58, 51, 48, 90] = none := by decide +kernel
theorem lvO : ofD 951782400 = ⟨2000, 2, 29, 0, 0, 0⟩ := by decide +kernel
theorem lvS : showT (ofD 1234567890) = [50, 48, 48, 57, 45, 48, 50, 45, 49, 51, 84, 50, 51, 58, 51, 49, 58, 51, 48, 90] := by decide +kernel
theorem lvD : daysM 1900 2 = 28 := by decide +kernel
set_option maxHeartbeats 8000000 in
theorem lives04_any (m : Int) (w : World) (hM : MM m w) : Calls Tryd.prog 8 #[] w fun e w' => e = .returned (.bool true) ∧ Below w.heap.size w w' := by
  have HW : Hid (∀ W, Calls Tryd.prog 17 #[.string ⟨#[49, 57, 55, 48, 45, 48, 49, 45, 48, 50, 84, 48, 48, 58, 48, 48, 58, 48, 49, 90]⟩] W (fun e w' => e = .returned (.tuple #[.int .i64 86401, .int .i64 0]) ∧ Below W.heap.size W w')) := Lib.hid (fun W => by
    have := web_any [49, 57, 55, 48, 45, 48, 49, 45, 48, 50, 84, 48, 48, 58, 48, 48, 58, 48, 49, 90] W (by decide)
    rw [lvW] at this
    exact this)
  have HMA : Hid (∀ W, MM m W → Calls Tryd.prog 21 #[.string ⟨#[70, 114, 105, 44, 32, 49, 51, 32, 70, 101, 98, 32, 50, 48, 48, 57, 32, 50, 51, 58, 51, 49, 58, 51, 48, 32, 71, 77, 84]⟩] W (fun e w' => e = .returned (.tuple #[.int .i64 1234567890, .int .i64 0]) ∧ Below W.heap.size W w')) := Lib.hid (fun W hM => by
    have := mail_any [70, 114, 105, 44, 32, 49, 51, 32, 70, 101, 98, 32, 50, 48, 48, 57, 32, 50, 51, 58, 51, 49, 58, 51, 48, 32, 71, 77, 84] m W (by decide) hM
    rw [lvM] at this
    exact this)
  have HAA : Hid (∀ W, MM m W → Calls Tryd.prog 18 #[.string ⟨#[50, 48, 48, 57, 45, 48, 50, 45, 49, 52, 84, 48, 49, 58, 51, 49, 58, 51, 48, 46, 53, 43, 48, 50, 58, 48, 48]⟩] W (fun e w' => e = .returned (.tuple #[.int .i64 1234567890, .int .i64 0]) ∧ Below W.heap.size W w')) := Lib.hid (fun W hM => by
    have := any4_any [50, 48, 48, 57, 45, 48, 50, 45, 49, 52, 84, 48, 49, 58, 51, 49, 58, 51, 48, 46, 53, 43, 48, 50, 58, 48, 48] m W (by decide) hM
    rw [lvA] at this
    exact this)
  have HAB : Hid (∀ W, MM m W → Calls Tryd.prog 18 #[.string ⟨#[50, 48, 48, 57, 45, 48, 50, 45, 51, 48, 84, 48, 49, 58, 51, 49, 58, 51, 48, 90]⟩] W (fun e w' => e = .returned (.tuple #[.int .i64 0, .int .i64 40]) ∧ Below W.heap.size W w')) := Lib.hid (fun W hM => by
    have := any4_any [50, 48, 48, 57, 45, 48, 50, 45, 51, 48, 84, 48, 49, 58, 51, 49, 58, 51, 48, 90] m W (by decide) hM
    rw [lvB] at this
    exact this)
  have HOF : Hid (∀ W, Calls Tryd.prog 13 #[.int .i64 951782400] W (fun e w' => e = .returned (.tuple #[.agg #[.int .i64 2000, .int .i64 2, .int .i64 29, .int .i64 0, .int .i64 0, .int .i64 0], .int .i64 0]) ∧ Below W.heap.size W w')) := Lib.hid (fun W => by
    have := of_yes 951782400 W (by decide)
    rw [lvO] at this
    exact this)
  have HSH : Hid (∀ W, Calls Tryd.prog 15 #[.int .i64 1234567890] W (fun e w' => e = .returned (.string ⟨#[50, 48, 48, 57, 45, 48, 50, 45, 49, 51, 84, 50, 51, 58, 51, 49, 58, 51, 48, 90]⟩) ∧ Below W.heap.size W w')) := Lib.hid (fun W => by
    have := show_yes 1234567890 W (by decide)
    rw [lvS] at this
    exact this)
  have HDY : Hid (∀ W, Calls Tryd.prog 9 #[.int .i64 1900, .int .i64 2] W (fun e w' => e = .returned (.int .i64 28) ∧ W = w')) := Lib.hid (fun W => by
    have := days4_any 1900 2 W (by omega) (by omega)
    rw [lvD] at this
    exact this)
  have HCK : Hid (∀ W, Calls Tryd.prog 12 #[.agg #[.int .i64 0, .int .i64 0, .int .i64 0, .int .i64 0, .int .i64 0, .int .i64 0]] W (fun e w' => e = .returned (.int .i64 40) ∧ Below W.heap.size W w')) := Lib.hid (fun W => check4_any 0 0 0 0 0 0 W (by omega) (by omega))
  go_enter Tryd.func8, Tryd.ntmps8
  go_wp2_with fail
  (with_reducible refine (HW.out _).mono ?_)
  rintro e w1 ⟨rfl, hb1⟩
  go_wp2_with fail
  (with_reducible refine (HMA.out _ (hM.keep hb1)).mono ?_)
  rintro e w2 ⟨rfl, hb2⟩
  have B2 := bel_step hb1 hb2
  go_wp2_with fail
  (with_reducible refine (HAA.out _ (hM.keep B2)).mono ?_)
  rintro e w3 ⟨rfl, hb3⟩
  have B3 := bel_step B2 hb3
  go_wp2_with fail
  (with_reducible refine (HAB.out _ (hM.keep B3)).mono ?_)
  rintro e w4 ⟨rfl, hb4⟩
  have B4 := bel_step B3 hb4
  go_wp2_with fail
  (with_reducible refine (HOF.out _).mono ?_)
  rintro e w5 ⟨rfl, hb5⟩
  have B5 := bel_step B4 hb5
  clear hb1 hb2 hb3 hb4 hb5 B2 B3 B4
  have B6 := bel_alloc B5 (.cells #[.int .i64 2000, .int .i64 2, .int .i64 29, .int .i64 0, .int .i64 0, .int .i64 0] 23)
  go_wp2_with fail
  (with_reducible refine (HSH.out _).mono ?_)
  rintro e w7 ⟨rfl, hb7⟩
  have B7 := bel_step B6 hb7
  clear hb7 B6 B5
  go_wp2_with fail
  (with_reducible refine (HDY.out _).mono ?_)
  rintro e w8 ⟨rfl, rfl⟩
  go_wp2_with fail
  (with_reducible refine (HCK.out _).mono ?_)
  rintro e w9 ⟨rfl, hb9⟩
  have B9 := bel_step B7 hb9
  go_wp2_with fail
  go_ret
  exact ⟨rfl, B9⟩
end Go.Proofs.YtobidipkgaaecaaDoor
