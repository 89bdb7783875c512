/-
  Is an event too large to be looked at?
-/
import Derived.Test.YtchcedoaiihnmaaGreatDoorEvB
namespace Go.Proofs.YtchcedoaiihnmaaGreatDoor
open Go.RowKit Go.Nst
set_option maxRecDepth 100000
set_option linter.unusedVariables false
set_option linter.unusedSimpArgs false

def largeB (s t u : List UInt8) : Bool := decide (1000 < s.length) || (decide (1000 < t.length) || decide (1000 < u.length))
theorem large14_any (k a b n : Int) (s t u : List UInt8) (w : World) (hs : s.length ≤ 9223372036854775807) (ht : t.length ≤ 9223372036854775807) (hu : u.length ≤ 9223372036854775807) : Calls Tryz.prog 5 #[.agg (evV k a b n s t u)] w fun r w' => r = .returned (.bool (largeB s t u)) ∧ Below w.heap.size w w' := by
  simp only [evV]
  obtain ⟨r, hr⟩ : ∃ r, largeB s t u = r := ⟨_, rfl⟩
  rw [hr]
  unfold largeB at hr
  by_cases h1 : 1000 < s.length
  · have HR : Hid (r = true) := Lib.hid (by rw [← hr]; simp [h1])
    have d1 : decide ((1000 : Int) < (s.length : Int)) = true := by simp; omega
    clear hr
    go_enter Tryz.func5, Tryz.ntmps5
    go_wp2_with fail
    go_ret
    exact ⟨by rw [HR.out]; rfl, bel_alloc (Below.refl _ _) _⟩
  · by_cases h2 : 1000 < t.length
    · have HR : Hid (r = true) := Lib.hid (by rw [← hr]; simp [h2])
      have d1 : decide ((1000 : Int) < (s.length : Int)) = false := by simp; omega
      have d2 : decide ((1000 : Int) < (t.length : Int)) = true := by simp; omega
      clear hr
      go_enter Tryz.func5, Tryz.ntmps5
      go_wp2_with fail
      go_ret
      exact ⟨by rw [HR.out]; rfl, bel_alloc (Below.refl _ _) _⟩
    · by_cases h3 : 1000 < u.length
      · have HR : Hid (r = true) := Lib.hid (by rw [← hr]; simp [h3])
        have d1 : decide ((1000 : Int) < (s.length : Int)) = false := by simp; omega
        have d2 : decide ((1000 : Int) < (t.length : Int)) = false := by simp; omega
        have d3 : decide ((1000 : Int) < (u.length : Int)) = true := by simp; omega
        clear hr
        go_enter Tryz.func5, Tryz.ntmps5
        go_wp2_with fail
        go_ret
        exact ⟨by rw [HR.out]; rfl, bel_alloc (Below.refl _ _) _⟩
      · have HR : Hid (r = false) := Lib.hid (by rw [← hr]; simp [h1, h2, h3])
        have d1 : decide ((1000 : Int) < (s.length : Int)) = false := by simp; omega
        have d2 : decide ((1000 : Int) < (t.length : Int)) = false := by simp; omega
        have d3 : decide ((1000 : Int) < (u.length : Int)) = false := by simp; omega
        clear hr
        go_enter Tryz.func5, Tryz.ntmps5
        go_wp2_with fail
        go_ret
        exact ⟨by rw [HR.out]; rfl, bel_alloc (Below.refl _ _) _⟩
end Go.Proofs.YtchcedoaiihnmaaGreatDoor
