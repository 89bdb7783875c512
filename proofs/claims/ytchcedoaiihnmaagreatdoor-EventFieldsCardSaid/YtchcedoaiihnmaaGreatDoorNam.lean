/-
  event.Name.
-/
import Derived.Test.YtchcedoaiihnmaaGreatDoorBas
import Derived.Test.YtchcedoaiihnmaaGreatDoorUt2
namespace Go.Proofs.YtchcedoaiihnmaaGreatDoor
open Go.RowKit Go.Nst
set_option maxRecDepth 100000
set_option linter.unusedVariables false
set_option linter.unusedSimpArgs false

def nameL : Nat → List UInt8
  | 0 => []
  | 1 => [102, 111, 108, 100, 101, 114]
  | 2 => [117, 110, 102, 111, 108, 100, 101, 114]
  | 3 => [102, 101, 101, 100]
  | 4 => [117, 110, 102, 101, 101, 100]
  | 5 => [116, 105, 116, 108, 101]
  | 6 => [109, 111, 118, 101]
  | 7 => [105, 116, 101, 109]
  | 8 => [114, 101, 97, 100]
  | 9 => [115, 116, 97, 114]
  | 10 => [116, 97, 103]
  | 11 => [115, 101, 97, 114, 99, 104]
  | 12 => [117, 110, 115, 101, 97, 114, 99, 104]
  | 13 => [99, 108, 111, 99, 107]
  | _ => []
def nameK (k : Int) : List UInt8 := if 1 ≤ k ∧ k ≤ 13 then nameL k.toNat else []
/-- the kinds' names stand where they were laid -/
def Nms (w : World) : Prop := ∀ k, k < 14 → w.cell? ⟨0, k, none⟩ = some (.string ⟨(nameL k).toArray⟩)
theorem Nms.below {w w' : World} (h : Nms w) (hb : Below w.heap.size w w') : Nms w' := fun k hk => by
  have h0 := h k hk
  exact (hb.cell (p := ⟨0, k, none⟩) (World.block_lt_of_cell? w _ h0)).trans h0
theorem name_any (k : Int) (w : World) (hN : Nms w) : Calls Tryz.prog 11 #[.int .i64 k] w fun e w' => e = .returned (.string ⟨(nameK k).toArray⟩) ∧ w = w' := by
  obtain ⟨r, hr⟩ : ∃ r, nameK k = r := ⟨_, rfl⟩
  rw [hr]
  unfold nameK at hr
  by_cases h1 : k < 1
  · have HR : Hid (r = []) := Lib.hid (by rw [← hr, if_neg (by omega)])
    have d1 : decide (k < 1) = true := by simpa using h1
    clear hr h1
    go_enter Tryz.func11, Tryz.ntmps11
    go_wp2_with fail
    go_ret
    exact ⟨by rw [HR.out]; rfl, rfl⟩
  · have d1 : decide (k < 1) = false := by simpa using h1
    by_cases h2 : 14 ≤ k
    · have HR : Hid (r = []) := Lib.hid (by rw [← hr, if_neg (by omega)])
      have d2 : decide (14 ≤ k) = true := by simpa using h2
      clear hr h1 h2
      go_enter Tryz.func11, Tryz.ntmps11
      go_wp2_with fail
      go_ret
      exact ⟨by rw [HR.out]; rfl, rfl⟩
    · have d2 : decide (14 ≤ k) = false := by simpa using h2
      obtain ⟨j, rfl⟩ := Int.eq_ofNat_of_zero_le (show 0 ≤ k by omega)
      have HR : Hid (r = nameL j) := Lib.hid (by rw [← hr, if_pos (by omega)]; rfl)
      have hc := hN j (by omega)
      have hj : (j : Int) < 14 := by omega
      have hj0 : (0 : Int) ≤ (j : Int) := by omega
      generalize nameL j = nm at *
      clear hr h1 h2 hN
      go_enter Tryz.func11, Tryz.ntmps11
      go_wp2_with fail
      go_ret
      exact ⟨by rw [HR.out]; rfl, rfl⟩
theorem nameK_empty (k : Int) : (nameK k = []) ↔ ¬ (1 ≤ k ∧ k ≤ 13) := by
  unfold nameK
  by_cases h : 1 ≤ k ∧ k ≤ 13
  · rw [if_pos h]
    have : k.toNat = 1 ∨ k.toNat = 2 ∨ k.toNat = 3 ∨ k.toNat = 4 ∨ k.toNat = 5 ∨ k.toNat = 6 ∨ k.toNat = 7 ∨ k.toNat = 8 ∨ k.toNat = 9 ∨ k.toNat = 10 ∨ k.toNat = 11 ∨ k.toNat = 12 ∨ k.toNat = 13 := by omega
    rcases this with e | e | e | e | e | e | e | e | e | e | e | e | e <;> rw [e] <;> simp [nameL, h]
  · rw [if_neg h]; simp [h]

end Go.Proofs.YtchcedoaiihnmaaGreatDoor
