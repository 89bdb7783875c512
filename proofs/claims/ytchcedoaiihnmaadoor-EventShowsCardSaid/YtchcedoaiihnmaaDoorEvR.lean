/-
  Events shown, the document's side: Name, Digits, quote, Show, Item.
-/
import Derived.Test.YtchcedoaiihnmaaDoorEvP
import Derived.Test.YtchcedoaiihnmaaDoorNam
import Derived.Test.YtchcedoaiihnmaaDoorOrd
import Derived.BigQuiet
namespace Go.Proofs.YtchcedoaiihnmaaDoor
open Go.RowKit Go.Nst
set_option maxRecDepth 100000
set_option linter.unusedVariables false
set_option linter.unusedSimpArgs false

theorem ba_app14 (a b : List UInt8) : (ByteArray.mk a.toArray) ++ (ByteArray.mk b.toArray) = ⟨(a ++ b).toArray⟩ := by
  apply ByteArray.ext
  simp [ByteArray.data_append]
theorem dig_char14 (d : Nat) (h : d < 10) : (ByteArray.mk #[48, 49, 50, 51, 52, 53, 54, 55, 56, 57]).extract d (d + 1) = ⟨#[UInt8.ofNat (48 + d)]⟩ := by
  rcases (by omega : d = 0 ∨ d = 1 ∨ d = 2 ∨ d = 3 ∨ d = 4 ∨ d = 5 ∨ d = 6 ∨ d = 7 ∨ d = 8 ∨ d = 9) with rfl | rfl | rfl | rfl | rfl | rfl | rfl | rfl | rfl | rfl <;> rfl
theorem str_at14 (s : ByteArray) (k : Nat) (w : World) (h : k < s.size) : (Instr.index 9 (.string s) (.int .i64 (k : Int))).run Tryd.prog w = .ok (.int .u8 (((s[k]'h).toNat : Nat) : Int)) w := by
  rw [run_index_string w 9 s .i64 _ Tryd.underlying9, dif_pos (by omega)]
  rfl
theorem dec_len (u : Nat) (h : u < 10 ^ 19) : (Lib.decDigits u).length ≤ 19 := by
  rw [Lib.decDigits_length]
  rcases Nat.lt_or_ge 19 (Lib.nDigits u) with h1 | h1
  · exfalso
    have h2 : 10 ^ (Lib.nDigits u - 1) ≤ u := by
      obtain ⟨k, hk⟩ : ∃ k, Lib.nDigits u = k + 1 := ⟨Lib.nDigits u - 1, by omega⟩
      rcases Nat.lt_or_ge u (10 ^ k) with hlt | hge
      · exfalso
        have : ∀ (k u : Nat), u < 10 ^ k → 1 ≤ k → Lib.nDigits u ≤ k := by
          intro k
          induction k with
          | zero => intro u _ h; omega
          | succ k ih =>
            intro u hu _
            by_cases h10 : u < 10
            · rw [Lib.nDigits_small h10]
              omega
            · rw [Lib.nDigits_big h10]
              have hk : 1 ≤ k := by
                rcases Nat.eq_zero_or_pos k with e | e
                · subst e
                  simp at hu
                  omega
                · exact e
              have := ih (u / 10) (by rw [Nat.pow_succ] at hu; omega) hk
              omega
        have h3 := this k u hlt (by omega)
        omega
      · rw [hk]
        exact hge
    have h3 : (10 : Nat) ^ 19 ≤ 10 ^ (Lib.nDigits u - 1) := Nat.pow_le_pow_right (by omega) (by omega)
    omega
  · exact h1
def emptyN : Value → Nat
  | .string b => if b.size = 0 then 1 else 0
  | _ => 0
theorem l_min : Lib.itoa (-9223372036854775808) = [45, 57, 50, 50, 51, 51, 55, 50, 48, 51, 54, 56, 53, 52, 55, 55, 53, 56, 48, 56] := by decide +kernel
set_option maxHeartbeats 4000000 in
theorem refName14_any (k : Int) (w : World) : Calls Tryd.prog 17 #[.int .i64 k] w fun e w' => e = .returned (.string ⟨(nameK k).toArray⟩) ∧ Below w.heap.size w w' := by
  have B0 := bel_alloc (Below.refl w.heap.size w) (.cells #[.string ⟨#[102, 111, 108, 100, 101, 114]⟩, .string ⟨#[117, 110, 102, 111, 108, 100, 101, 114]⟩, .string ⟨#[102, 101, 101, 100]⟩, .string ⟨#[117, 110, 102, 101, 101, 100]⟩, .string ⟨#[116, 105, 116, 108, 101]⟩, .string ⟨#[109, 111, 118, 101]⟩, .string ⟨#[105, 116, 101, 109]⟩, .string ⟨#[114, 101, 97, 100]⟩, .string ⟨#[115, 116, 97, 114]⟩, .string ⟨#[116, 97, 103]⟩, .string ⟨#[115, 101, 97, 114, 99, 104]⟩, .string ⟨#[117, 110, 115, 101, 97, 114, 99, 104]⟩, .string ⟨#[99, 108, 111, 99, 107]⟩] 9)
  by_cases hk : 1 ≤ k ∧ k ≤ 13
  · obtain ⟨j, rfl⟩ := Int.eq_ofNat_of_zero_le (show 0 ≤ k by omega)
    have hj : j = 1 ∨ j = 2 ∨ j = 3 ∨ j = 4 ∨ j = 5 ∨ j = 6 ∨ j = 7 ∨ j = 8 ∨ j = 9 ∨ j = 10 ∨ j = 11 ∨ j = 12 ∨ j = 13 := by omega
    clear hk
    rcases hj with rfl | rfl | rfl | rfl | rfl | rfl | rfl | rfl | rfl | rfl | rfl | rfl | rfl
    all_goals
      go_enter Tryd.func17, Tryd.ntmps17
      go_wp2_with fail
      go_ret
      exact ⟨rfl, B0⟩
  · have HV : Hid (nameK k = []) := Lib.hid (by unfold nameK; rw [if_neg hk])
    by_cases h1 : k < 1
    · have d1 : decide (k < 1) = true := by simpa using h1
      go_enter Tryd.func17, Tryd.ntmps17
      go_wp2_with fail
      go_ret
      rw [HV.out]
      exact ⟨rfl, B0⟩
    · have d1 : decide (k < 1) = false := by simpa using h1
      have d2 : decide (13 < k) = true := by simp; omega
      go_enter Tryd.func17, Tryd.ntmps17
      go_wp2_with fail
      go_ret
      rw [HV.out]
      exact ⟨rfl, B0⟩
end Go.Proofs.YtchcedoaiihnmaaDoor
