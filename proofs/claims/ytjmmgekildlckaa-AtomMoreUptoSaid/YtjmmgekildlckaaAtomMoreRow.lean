/-
  AtomMore: the row, out of the walk.
-/
import Derived.Test.YtjmmgekildlckaaRows
import Derived.Test.YtjmmgekildlckaaAtI
import Derived.Test.YtjmmgekildlckaaRsO
import Derived.Test.YtjmmgekildlckaaFrame
import Derived.Below
namespace Go.Proofs.Ytjmmgekildlckaa.atomMore
open Go.ChangeShapes Go.WideShapes Go.ChangeAt Go.RowKit Go.Nst
open Go.ChangeMaps (open_string shut_string)
set_option linter.unusedVariables false

set_option maxRecDepth 100000 in
theorem lifted (os : Go.Os) (started : os.Started) (H : Type) (enc : TypeId × Value → H) (F : Stop.Interp) :
    ReturnsInHanded {} Try.checked os 3 .any ((Rows.OpenSpec.upto Rows.atomMoreSpec).pre6 enc Try.prog Try.f3 Rows.atomMoreUptoRow.domain false) (((Rows.OpenSpec.upto Rows.atomMoreSpec).at F).post enc Try.prog Try.f3 false true false false) := by
  refine returnsInHanded_of_cond (C := Try.checked) (s := Rows.OpenSpec.upto Rows.atomMoreSpec) (k := Rows.uptoSmall) rfl own started (by kernel_rfl) Try.func3
    (OpenSpec.witness (enc := enc) (C := Try.checked) (s := Rows.OpenSpec.upto Rows.atomMoreSpec) (k := Rows.uptoSmall) rfl false ⟨#[], #[.agg #[.string ByteArray.empty, .slice none 0 0, .string ByteArray.empty, .slice none 0 0], .agg #[.string ByteArray.empty, .slice none 0 0, .string ByteArray.empty, .slice none 0 0]], []⟩ 8 (by kernel_rfl) (by kernel_rfl) (by kernel_rfl)
      (x := ([.agg [.lit (.string []), .nil, .lit (.string []), .nil], .agg [.lit (.string []), .nil, .lit (.string []), .nil]], [], [])) (by kernel_rfl) rfl (by kernel_rfl)) ?_
  intro W base args ds gs before hval0 hW _ hk _
  have hval : ∀ (j : Nat) t v, Try.f3.params[j]? = some t → args[j]? = some v → Value.okWide Try.prog W .any base t v := hval0
  have hW' := hW
  obtain ⟨p, q, hA0, hV, rfl, hfz, hnd⟩ := hW
  have hA : DataW.TrodAll enc Try.prog W 0 (fun _ => true) true Try.f3.params.toList args.toList ds p := hA0
  rw [Try.params3] at hA hval
  obtain ⟨v0, vs0, d0, ds0, p0, q0, hargs, rfl, rfl, h0, r0⟩ := trodAll_cons hA
  obtain ⟨v1, vs1, d1, ds1, p1, q1, rfl, rfl, rfl, h1, r1⟩ := trodAll_cons r0
  obtain ⟨rfl, rfl, rfl⟩ := trodAll_nil r1
  obtain rfl : args = #[v0, v1] := by cases args; simp_all
  obtain ⟨rfl, rfl⟩ := trodVars_none hV
  have hk1 := of_decide_eq_true hk
  simp only [List.append_nil, Rows.uptoBulkAll] at hk1
  have k0 := h0
  have lt0 := bytes_lt k0
  obtain ⟨vs0, e0, rfl, hq0⟩ := open_element (hval 0 25 v0 rfl rfl) h0 (by omega)
  obtain ⟨A0, c0, B0, u0, rfl, hE0⟩ := em_open hq0
  have k1 := h1
  have lt1 := bytes_lt k1
  obtain ⟨vs1, e1, rfl, hq1⟩ := open_element (hval 1 25 v1 rfl rfl) h1 (by omega)
  obtain ⟨A1, c1, B1, u1, rfl, hE1⟩ := em_open hq1
  clear hk
  clear hA0 hval0
  refine (atomMore_walk e0 e1 A0 B0 A1 B1 c0 u0 c1 u1 W _ hE0 hE1).mono fun e W' ⟨he, bel⟩ => ?_
  subst he
  exact ⟨_, rfl, _, _, _, [], _, [], hW', trodAll_mk1 (shut_bool Try.underlying4 _), (trodAll_cons_mk (Below.trod laidOut (by kernel_rfl) (of_decide_eq_true (by kernel_rfl)) k0 bel lt0) (trodAll_cons_mk (Below.trod laidOut (by kernel_rfl) (of_decide_eq_true (by kernel_rfl)) k1 bel lt1) trodAll_mk0)), rfl, bel.frame _, fun h => by cases h⟩

theorem said : Rows.AtomMoreUptoSaid :=
  OpenClaim.holds_of_cond 3 Try.f3 rfl rfl rfl rfl rfl rfl rfl ⟨rfl, rfl, rfl, rfl, rfl⟩ rfl rfl rfl rfl rfl (by kernel_rfl) Try.func3 (by kernel_rfl)
    (of_decide_eq_true (by kernel_rfl)) (by unfold Func.isWrapper; first | (rw [if_pos (by decide +kernel)]; kernel_rfl) | (rw [if_neg (by decide +kernel)]; exact ⟨rfl, rfl⟩))
    (fun os started H enc _ F => lifted os started H enc F)
end Go.Proofs.Ytjmmgekildlckaa.atomMore
namespace Go.Proofs.Ytjmmgekildlckaa
theorem atomMoreUpto_said : Rows.AtomMoreUptoSaid := atomMore.said
end Go.Proofs.Ytjmmgekildlckaa
