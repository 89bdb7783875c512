/-
  What every row's proof of this seat begins with: the program's knobs; an argument that is a slice of bytes.
-/
import Derived.Test.YtjmmgekildlckaaRows
import Derived.Test.YtjmmgekildlckaaBas
import Derived.ProofKit
import Derived.OpenShut
import Derived.ShutString
import Derived.ChangeOld
namespace Go.Proofs.Ytjmmgekildlckaa
open Go.ChangeShapes Go.WideShapes Go.ChangeAt Go.RowKit Go.Nst
set_option maxRecDepth 100000

theorem own : ownKnob Try.prog.godebug = none := by kernel_rfl
theorem laidOut : laidOutB Try.prog = true := by kernel_rfl

/-- a slice of bytes that came in -/
theorem open_bytes {H : Type} {enc : TypeId × Value → H} {W : World} {base : Nat} {v : Value} {d : DataW H} {p : List MemPlace} (hv : Value.okWide Try.prog W .any base 77 v) (h0 : DataW.Trod enc Try.prog W 0 (fun _ => true) true 77 v d p) :
    ∃ A n c l, v = .slice A n c ∧ Bs W A n l ∧ n ≤ c ∧ c ≤ 9223372036854775807 := by
  obtain ⟨a0, len0, cap0, rfl⟩ := okWide_slice Try.underlying77 hv
  obtain ⟨fuel, hf⟩ := h0
  have lt0 : ∀ x ∈ p, x.block < W.heap.size := DataW.trod_lt fuel _ _ _ hf
  rcases open_ints Try.underlying77 Try.underlying5 (by kernel_rfl) hf with ⟨hcs, _⟩ | ⟨x, ln, c, zs, hcs, _, hl, hm, hz, hx, hcell, hwz⟩
  · simp [Value.cells] at hcs
    obtain ⟨rfl, rfl, rfl⟩ := hcs
    exact ⟨none, 0, 0, [], rfl, Bs.nil, Nat.le_refl _, by omega⟩
  · simp [Value.cells] at hcs
    obtain ⟨rfl, rfl, rfl⟩ := hcs
    have hz' : zs.length = cap0 := by simpa using hz
    refine ⟨some x, len0, cap0, (zs.take len0).map fun z => UInt8.ofNat z.toNat, rfl, ⟨?_, fun hpos => ⟨x, rfl, ?_, fun j u hu => ?_⟩⟩, hl, hm⟩
    · rw [bv_len]
      simp
      omega
    · have h0 := hcell 0 (by omega)
      have := World.block_lt_of_cell? W _ h0
      rwa [block_of_add] at this
    · have hj : j < len0 := by
        rcases Nat.lt_or_ge j len0 with h | h
        · exact h
        · rw [List.getElem?_eq_none (by rw [bv_len]; simp; omega)] at hu; cases hu
      have hzj : zs[j]? = some (zs[j]'(by omega)) := List.getElem?_eq_getElem (by omega)
      rw [hcell j (by omega)]
      have hb := hwz (zs[j]'(by omega)) (List.getElem_mem _)
      have hb2 := bounds_u8 hb
      simp only [bv, List.map_map, List.getElem?_map, List.getElem?_take, hj, if_true, hzj, Option.map_some] at hu
      injection hu with hu
      rw [← hu, List.getD_eq_getElem?_getD, hzj]
      simp
      omega
/-- a slice of runes that came in -/
theorem open_runes_ {H : Type} {enc : TypeId × Value → H} {W : World} {base : Nat} {v : Value} {d : DataW H} {p : List MemPlace} (hv : Value.okWide Try.prog W .any base 107 v) (h0 : DataW.Trod enc Try.prog W 0 (fun _ => true) true 107 v d p) :
    ∃ A n c, ∃ l : List Int, v = .slice A n c ∧ Reads W W.heap.size 1 A n (l.map fun z => Value.int .i32 z) ∧ n ≤ c ∧ c ≤ 9223372036854775807 ∧ ∀ z ∈ l, -2147483648 ≤ z ∧ z ≤ 2147483647 := by
  obtain ⟨a0, len0, cap0, rfl⟩ := okWide_slice Try.underlying107 hv
  obtain ⟨fuel, hf⟩ := h0
  rcases open_ints Try.underlying107 Try.underlying21 (by kernel_rfl) hf with ⟨hcs, _⟩ | ⟨x, ln, c, zs, hcs, _, hl, hm, hz, hx, hcell, hwz⟩
  · simp [Value.cells] at hcs
    obtain ⟨rfl, rfl, rfl⟩ := hcs
    exact ⟨none, 0, 0, [], rfl, Reads.none_, Nat.le_refl _, by omega, by simp⟩
  · simp [Value.cells] at hcs
    obtain ⟨rfl, rfl, rfl⟩ := hcs
    have hz' : zs.length = cap0 := by simpa using hz
    refine ⟨some x, len0, cap0, zs.take len0, rfl, ⟨by simp; omega, fun hpos => ⟨x, rfl, ?_, fun j u hu => ?_⟩⟩, hl, hm, fun z hz => bounds_i32 (hwz z (List.mem_of_mem_take hz))⟩
    · have h0 := hcell 0 (by omega)
      have := World.block_lt_of_cell? W _ h0
      rwa [block_of_add] at this
    · have hj : j < len0 := by
        rcases Nat.lt_or_ge j len0 with h | h
        · exact h
        · rw [List.getElem?_eq_none (by simp; omega)] at hu; cases hu
      have hzj : zs[j]? = some (zs[j]'(by omega)) := List.getElem?_eq_getElem (by omega)
      rw [hcell j (by omega)]
      simp only [List.getElem?_map, List.getElem?_take, hj, if_true, hzj, Option.map_some] at hu
      injection hu with hu
      rw [← hu, List.getD_eq_getElem?_getD, hzj]
      rfl
theorem bytes_lt {H : Type} {enc : TypeId × Value → H} {W : World} {v : Value} {d : DataW H} {p : List MemPlace} {t : TypeId} (h0 : DataW.Trod enc Try.prog W 0 (fun _ => true) true t v d p) : ∀ x ∈ p, x.block < W.heap.size := by
  obtain ⟨m, hm⟩ := h0
  exact DataW.trod_lt m _ _ _ hm
end Go.Proofs.Ytjmmgekildlckaa
