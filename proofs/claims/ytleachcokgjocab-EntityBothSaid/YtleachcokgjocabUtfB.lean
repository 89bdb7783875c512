/-
  The reference's First, walked.
-/
import Derived.Test.YtleachcokgjocabUtfA
import Derived.Laws.Strings3
namespace Go.Proofs.Ytleachcokgjocab
open Go.RowKit Go.Nst
set_option maxRecDepth 100000
set_option linter.unusedVariables false

def RetF (w : World) (p : Nat × Nat) (e : Ending) (w' : World) : Prop := e = .returned (.tuple #[.int .i32 (p.1 : Int), .int .i64 (p.2 : Int)]) ∧ w = w'

theorem bl_cons (s : ByteArray) (h : 0 < s.size) : bl s = (s[(0 : Nat)]'h) :: (bl s).drop 1 := by
  have h1 := bl_get s 0 h
  have h2 : 0 < (bl s).length := by rw [bl_len]; exact h
  have h3 : (bl s)[0]'h2 = s[(0 : Nat)]'h := by rw [List.getElem?_eq_getElem h2] at h1; injection h1
  rw [← h3]
  exact (List.getElem_cons_drop h2).symm

theorem accT_round {k n : Nat} {t : List UInt8} {d : UInt8} {z : Option Nat} {y : Nat} (h : z = accT y ((t.drop k).take (n - k))) (hk : k < n) (hd : t[k]? = some d) :
    (tailB d = true → z = accT (y * 64 + (d.toNat - 128)) ((t.drop (k + 1)).take (n - (k + 1)))) ∧ (tailB d = false → z = none) := by
  obtain ⟨hl, hd⟩ := List.getElem?_eq_some_iff.1 hd
  have e1 : (t.drop k).take (n - k) = d :: (t.drop (k + 1)).take (n - (k + 1)) := by
    rw [← List.getElem_cons_drop hl, hd]
    obtain ⟨m, hm⟩ : ∃ m, n - k = m + 1 := ⟨n - k - 1, by omega⟩
    rw [hm, show n - (k + 1) = m by omega]
    rfl
  rw [e1] at h
  constructor
  · intro ht
    rw [h]
    simp [accT, ht]
  · intro ht
    rw [h]
    simp [accT, ht]
theorem accT_end {k n : Nat} {t : List UInt8} {z : Option Nat} {y : Nat} (h : z = accT y ((t.drop k).take (n - k))) (hk : n ≤ k) : z = some y := by
  rw [h, show n - k = 0 by omega]
  rfl

theorem seenT_low (least n y : Nat) (h : y < least) : seenT least n (some y) = (65533, 1) := by
  have : ¬ least ≤ y := by omega
  simp [seenT, this]
theorem seenT_bad (least n y : Nat) (h : 1114111 < y ∨ (55296 ≤ y ∧ y ≤ 57343)) : seenT least n (some y) = (65533, 1) := by
  have : okR y = false := by rw [Bool.eq_false_iff]; simp [okR]; omega
  simp [seenT, this]
theorem seenT_ok (least n y : Nat) (h : least ≤ y) (h1 : y ≤ 1114111) (h2 : ¬ (55296 ≤ y ∧ y ≤ 57343)) : seenT least n (some y) = (y, n) := by
  have : okR y = true := by simp [okR]; omega
  simp [seenT, this, h]
theorem index_at (s : ByteArray) (k : Nat) (w : World) (h : k + 1 < s.size) : (Instr.index 9 (.string s) (.int .i64 ((k : Int) + 1))).run Try.prog w = .ok (.int .u8 (((s[k + 1]'h).toNat : Nat) : Int)) w := by
  rw [run_index_string w 9 s .i64 _ Try.underlying9, dif_pos (by omega)]
  rfl

end Go.Proofs.Ytleachcokgjocab
