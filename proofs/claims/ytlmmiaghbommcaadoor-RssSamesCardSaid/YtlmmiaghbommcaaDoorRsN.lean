/-
  A feed that came in; a list of texts that came in.
-/
import Derived.Test.YtlmmiaghbommcaaDoorRsG
import Derived.Test.YtlmmiaghbommcaaDoorFrame
namespace Go.Proofs.YtlmmiaghbommcaaDoor
open Go.ChangeShapes Go.WideShapes Go.ChangeAt Go.Deep
open Go.RowKit Go.Nst
set_option maxRecDepth 100000
set_option linter.unusedVariables false
set_option linter.unusedSimpArgs false

theorem open_en {H : Type} {enc : TypeId × Value → H} {W : World} (n : Nat) (cs : List Value) (y : DataW H × List MemPlace) (h : DataW.trod enc Tryd.prog W 0 (fun _ => true) true n 37 cs = some y) : ∃ x, EnP W (fun _ => True) cs.toArray x := by
  obtain ⟨xs, m, hm, _, hlen, hxl, hf⟩ := DataW.trod_struct Tryd.underlying37 h
  have hC : Tryd.prog.cellsOf 37 = 5 := by kernel_rfl
  rw [hC] at hlen
  obtain ⟨c0, c1, c2, c3, c4, rfl⟩ : ∃ c0 c1 c2 c3 c4, cs = [c0, c1, c2, c3, c4] := by
    match cs, hlen with
    | [c0, c1, c2, c3, c4], _ => exact ⟨c0, c1, c2, c3, c4, rfl⟩
  have hi : Tryd.prog.cellsOf 3 = 1 := by kernel_rfl
  have hst : Tryd.prog.cellsOf 9 = 1 := by kernel_rfl
  have hbo : Tryd.prog.cellsOf 4 = 1 := by kernel_rfl
  match xs, hxl with
  | [y0, y1, y2, y3, y4], _ =>
    have t0 := hf 0 _ rfl
    have t1 := hf 1 _ rfl
    have t2 := hf 2 _ rfl
    have t3 := hf 3 _ rfl
    have t4 := hf 4 _ rfl
    simp only [hi, hst, hbo, List.drop_zero, List.drop_succ_cons, List.take_succ_cons, List.take_zero, List.getElem?_cons_zero, List.getElem?_cons_succ] at t0 t1 t2 t3 t4
    obtain ⟨s0, e0, _, b0⟩ := DataW.trod_string Tryd.underlying9 t0
    obtain ⟨s1, e1, _, b1⟩ := DataW.trod_string Tryd.underlying9 t1
    obtain ⟨s2, e2, _, b2⟩ := DataW.trod_string Tryd.underlying9 t2
    obtain ⟨o, e3, _, b3⟩ := DataW.trod_int Tryd.underlying3 t3
    obtain ⟨q, e4, _⟩ := DataW.trod_bool Tryd.underlying4 t4
    injection e0 with e0
    injection e1 with e1
    injection e2 with e2
    injection e3 with e3
    injection e4 with e4
    subst e0
    subst e1
    subst e2
    subst e3
    subst e4
    exact ⟨⟨s0.data.toList, s1.data.toList, s2.data.toList, o, q⟩, by simp [EnP, enV]⟩
theorem open_doc {H : Type} {enc : TypeId × Value → H} {W : World} {base : Nat} {v : Value} {d : DataW H} {p : List MemPlace} (hv : Value.okWide Tryd.prog W .any base 24 v) (h0 : DataW.Trod enc Tryd.prog W 0 (fun _ => true) true 24 v d p) :
    ∃ (D : Docs) (A : Option Addr) (n c : Nat), v = .agg #[.string ⟨D.ti.toArray⟩, .string ⟨D.li.toArray⟩, .slice A n c] ∧ n ≤ c ∧ c ≤ 9223372036854775807 ∧ EnA W (fun _ => True) A n D.en := by
  obtain ⟨cs, rfl, hsz⟩ := okWide_struct Tryd.underlying24 hv
  obtain ⟨fuel, hf0⟩ := h0
  obtain ⟨xs, m, hm, _, hlen, hxl, hf⟩ := DataW.trod_struct Tryd.underlying24 hf0
  have hC : Tryd.prog.cellsOf 24 = 3 := by kernel_rfl
  rw [hC] at hlen
  obtain ⟨c0, c1, c2, hcs⟩ : ∃ c0 c1 c2, (Value.agg cs).cells.toList = [c0, c1, c2] := by
    match (Value.agg cs).cells.toList, hlen with
    | [c0, c1, c2], _ => exact ⟨c0, c1, c2, rfl⟩
  have hst : Tryd.prog.cellsOf 9 = 1 := by kernel_rfl
  have hsl : Tryd.prog.cellsOf 22 = 1 := by kernel_rfl
  rw [hcs] at hf
  match xs, hxl with
  | [y0, y1, y2], _ =>
    have t0 := hf 0 _ rfl
    have t1 := hf 1 _ rfl
    have t2 := hf 2 _ rfl
    simp only [hst, hsl, List.drop_zero, List.drop_succ_cons, List.take_succ_cons, List.take_zero, List.getElem?_cons_zero, List.getElem?_cons_succ] at t0 t1 t2
    obtain ⟨s0, e0, _, b0⟩ := DataW.trod_string Tryd.underlying9 t0
    obtain ⟨s1, e1, _, b1⟩ := DataW.trod_string Tryd.underlying9 t1
    haveI : Inhabited Ent := ⟨zeroEnt⟩
    obtain ⟨A, k, c, l, e2, hkc, hc, hA⟩ := open_rows Tryd.underlying22 (by kernel_rfl) enP open_en t2
    injection e0 with e0
    injection e1 with e1
    subst e0
    subst e1
    subst e2
    refine ⟨⟨s0.data.toList, s1.data.toList, l⟩, A, k, c, ?_, hkc, hc, hA⟩
    have : cs = #[.string s0, .string s1, .slice A k c] := by
      have h1 : cs.toList = [.string s0, .string s1, .slice A k c] := by simpa [Value.cells] using hcs
      exact Array.toList_inj.1 (by simpa using h1)
    rw [this]
/-- a text in a row -/
def StP (w : World) (S : Nat → Prop) (v : Array Value) (x : List UInt8) : Prop := v = #[.string ⟨x.toArray⟩]
theorem stP : ElP 1 StP where
  pos := by omega
  size := by rintro w S v x rfl; rfl
  one := by
    rintro w S v x rfl u hu
    simp only [List.mem_cons, List.not_mem_nil, or_false] at hu
    subst hu
    rfl
  keep := by rintro w w' S S' v x _ _ _ h; exact h
theorem open_st {H : Type} {enc : TypeId × Value → H} {W : World} (n : Nat) (cs : List Value) (y : DataW H × List MemPlace) (h : DataW.trod enc Tryd.prog W 0 (fun _ => true) true n 9 cs = some y) : ∃ x, StP W (fun _ => True) cs.toArray x := by
  obtain ⟨s, rfl, _, _⟩ := DataW.trod_string Tryd.underlying9 h
  exact ⟨s.data.toList, by simp [StP]⟩
theorem ss_of {W : World} {A : Option Addr} {k : Nat} {l : List (List UInt8)} (h : RwA 1 StP W (fun _ => True) A k l) : Ss W A k l := by
  have hl := h.len
  obtain ⟨V, hR, hV, _, hq⟩ := (h.r stP (S' := fun _ => True) (fun _ _ _ => trivial)).reads stP
  have e : rowZ V k = sv l := by
    apply List.ext_getElem?
    intro j
    by_cases hj : j < k
    · have h1 := rowZ_get V k hV j 0 hj (by omega)
      rw [Nat.mul_one, Nat.add_zero] at h1
      have h2 := hq j _ (List.getElem?_eq_getElem (show j < l.length by omega))
      rw [h1, show V j = _ from h2]
      simp [sv, show j < l.length by omega]
    · rw [List.getElem?_eq_none (by rw [rowZ_len V k hV]; omega), List.getElem?_eq_none (by simp [sv]; omega)]
  unfold Ss
  rw [← e]
  exact hR
theorem open_texts {H : Type} {enc : TypeId × Value → H} {W : World} {base : Nat} {v : Value} {d : DataW H} {p : List MemPlace} (hv : Value.okWide Tryd.prog W .any base 42 v) (h0 : DataW.Trod enc Tryd.prog W 0 (fun _ => true) true 42 v d p) :
    ∃ A k c l, v = .slice A k c ∧ k ≤ c ∧ c ≤ 9223372036854775807 ∧ Ss W A k l := by
  obtain ⟨a0, len0, cap0, rfl⟩ := okWide_slice Tryd.underlying42 hv
  obtain ⟨fuel, hf⟩ := h0
  obtain ⟨A, k, c, l, e, h1, h2, h3⟩ := open_rows Tryd.underlying42 (by kernel_rfl) stP open_st hf
  exact ⟨A, k, c, l, e, h1, h2, ss_of h3⟩
end Go.Proofs.YtlmmiaghbommcaaDoor
