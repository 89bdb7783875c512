/-
  Dates of the mail: month, weekday, named, year, clock, part (printed by gen_dtm.py).
  Dates of the mail: year, clock, part (printed by gen_dtn.py).
  A text cut at each of a byte, as strings.Split has it, is the document's.
-/
import Derived.Test.YtjmmgekildlckaaDtZ
import Derived.Lib.IndexMore
import Derived.Lib.Split
import Derived.Lib.SplitLaws
import Derived.Lib.CountLaws
section
namespace Go.Proofs.Ytjmmgekildlckaa
open Go.RowKit Go.Nst
set_option maxRecDepth 100000
set_option linter.unusedVariables false
set_option linter.unusedSimpArgs false

def monN : List UInt8 := [74, 97, 110, 70, 101, 98, 77, 97, 114, 65, 112, 114, 77, 97, 121, 74, 117, 110, 74, 117, 108, 65, 117, 103, 83, 101, 112, 79, 99, 116, 78, 111, 118, 68, 101, 99]
theorem indexL_not : ∀ {l : List (List UInt8)} {s : List UInt8}, s ∉ l → indexL l s = -1
  | [], _, _ => rfl
  | x :: l, s, h => by
    have h1 : ¬ x = s := fun e => h (by simp [e])
    have h2 : s ∉ l := fun e => h (by simp [e])
    unfold indexL
    rw [if_neg h1, indexL_not h2]
    rfl
theorem names3 : ∀ s ∈ namesM, s.length = 3 := by decide
theorem mon_cut : ∀ k : Fin 12, (monN.drop (3 * k.1)).take 3 ∈ namesM := by decide
theorem mon_at : ∀ s ∈ namesM, (0 ≤ Lib.index monN s ∧ Lib.index monN s % 3 = 0 ∧ Lib.index monN s / 3 = indexL namesM s) := by decide +kernel
theorem mon_not {s : List UInt8} (h3 : s.length = 3) (h : s ∉ namesM) : Lib.index monN s < 0 ∨ Lib.index monN s % 3 ≠ 0 := by
  rcases Lib.index_spec monN s with ⟨h1, _⟩ | ⟨i, h1, h2, h4, _⟩
  · left; omega
  · right
    intro hm
    rw [h1] at hm
    have hr := Lib.index_room monN s (by omega)
    rw [h1, h3, show monN.length = 36 from rfl] at hr
    have hi : i = 3 * (i / 3) := by omega
    have hk := mon_cut ⟨i / 3, by omega⟩
    simp only at hk
    rw [← hi] at hk
    have hp := List.isPrefixOf_iff_prefix.1 h4
    have := List.prefix_iff_eq_take.1 hp
    rw [h3] at this
    rw [← this] at hk
    exact h hk
theorem index_big (s : List UInt8) : Lib.index monN s ≤ 36 := by
  rcases Lib.index_spec monN s with ⟨h1, _⟩ | ⟨i, h1, h2, _⟩
  · omega
  · have : monN.length = 36 := rfl
    omega
def znV (o : Option Int) : Value := .tuple #[.int .i64 (o.getD 0), .bool o.isSome]
end Go.Proofs.Ytjmmgekildlckaa
end
section
namespace Go.Proofs.Ytjmmgekildlckaa
open Go.RowKit Go.Nst
set_option maxRecDepth 100000
set_option linter.unusedVariables false
set_option linter.unusedSimpArgs false

end Go.Proofs.Ytjmmgekildlckaa
end
section
namespace Go.Proofs.Ytjmmgekildlckaa
open Go.RowKit Go.Nst
set_option maxRecDepth 100000
set_option linter.unusedVariables false
set_option linter.unusedSimpArgs false

theorem index_cons1 (c b : UInt8) (t : List UInt8) (h : c ≠ b) : Lib.index (c :: t) [b] = if Lib.index t [b] = -1 then -1 else Lib.index t [b] + 1 := by
  conv => lhs; unfold Lib.index
  have : List.isPrefixOf [b] (c :: t) = false := by simp [List.isPrefixOf]; exact fun e => h e.symm
  rw [this]
  simp only [Bool.false_eq_true, if_false, beq_iff_eq]
theorem index_hit1 (b : UInt8) (t : List UInt8) : Lib.index (b :: t) [b] = 0 := by
  unfold Lib.index
  have : List.isPrefixOf [b] (b :: t) = true := by simp [List.isPrefixOf]
  rw [if_pos this]
theorem split_lib (b : UInt8) : ∀ l : List UInt8, Lib.splitK [b] 0 (Lib.count l [b]) l = splitL b l
  | [] => by
    have h : Lib.index [] [b] = -1 := rfl
    rw [Lib.count_miss h]
    rfl
  | c :: t => by
    have ih := split_lib b t
    by_cases hc : c = b
    · subst hc
      have h := index_hit1 c t
      have hcnt := Lib.count_hit (s := c :: t) (sub := [c]) (i := 0) (by simp) h
      rw [hcnt]
      simp only [Nat.zero_add, List.length_singleton, List.drop_succ_cons, List.drop_zero]
      rw [Nat.add_comm 1, Lib.splitK, h]
      simp only [splitL, if_true]
      have : ((0 : Int) == -1) = false := rfl
      rw [this]
      simp [ih]
    · have hx := index_cons1 c b t hc
      rcases Lib.index_spec t [b] with ⟨h1, _⟩ | ⟨i, h1, h2, _⟩
      · rw [h1, if_pos rfl] at hx
        rw [Lib.count_miss hx]
        rw [Lib.count_miss h1] at ih
        simp only [Lib.splitK] at ih ⊢
        simp only [splitL, if_neg hc]
        rw [← ih]
      · rw [h1, if_neg (by omega)] at hx
        have hx2 : Lib.index (c :: t) [b] = ((i + 1 : Nat) : Int) := by rw [hx]; rfl
        have hct := Lib.count_hit (s := t) (sub := [b]) (i := i) (by simp) h1
        have hcc := Lib.count_hit (s := c :: t) (sub := [b]) (i := i + 1) (by simp) hx2
        simp only [List.length_singleton] at hct hcc
        rw [hct] at ih
        rw [hcc]
        rw [Nat.add_comm 1, Lib.splitK, hx2]
        rw [Nat.add_comm 1, Lib.splitK, h1] at ih
        have e1 : (((i + 1 : Nat) : Int) == -1) = false := by rw [beq_eq_false_iff_ne]; omega
        have e2 : ((i : Int) == -1) = false := by rw [beq_eq_false_iff_ne]; omega
        rw [e1]
        rw [e2] at ih
        simp only [Bool.false_eq_true, if_false, Int.toNat_natCast, Nat.add_zero, List.length_singleton] at ih ⊢
        simp only [splitL, if_neg hc]
        rw [← ih]
        simp
/-- the row that strings.Split lays -/
theorem split_row (b : UInt8) (l : List UInt8) : (Lib.splitB ⟨#[b]⟩ 0 (Lib.countB ⟨l.toArray⟩ ⟨#[b]⟩) ⟨l.toArray⟩).map Value.string = (splitL b l).map fun p => Value.string ⟨p.toArray⟩ := by
  have h := Lib.splitB_data ⟨#[b]⟩ 0 (Lib.countB ⟨l.toArray⟩ ⟨#[b]⟩) ⟨l.toArray⟩
  have h2 : (Lib.splitB ⟨#[b]⟩ 0 (Lib.countB ⟨l.toArray⟩ ⟨#[b]⟩) ⟨l.toArray⟩).map (fun x : ByteArray => x.data.toList) = splitL b l := by
    rw [h]
    exact split_lib b l
  rw [← h2, List.map_map]
  rfl
theorem split_count (b : UInt8) (l : List UInt8) : Lib.countB ⟨l.toArray⟩ ⟨#[b]⟩ + 1 = (splitL b l).length := by
  have h := Lib.splitB_all ⟨#[b]⟩ (Nat.le_refl 1) 0 _ ⟨l.toArray⟩ rfl
  have h2 := congrArg List.length (split_row b l)
  rw [List.length_map, List.length_map] at h2
  omega
end Go.Proofs.Ytjmmgekildlckaa
end
