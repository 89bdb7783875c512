/-
  The reference's First: the first rune of bytes.
-/
import Derived.Test.YtleachcokgjocabProg
import Derived.Test.YtleachcokgjocabWords
import Derived.Test.YtleachcokgjocabUtfP
import Derived.Laws.Strings2
namespace Go.Proofs.Ytleachcokgjocab
open Go.RowKit Go.Nst
set_option maxRecDepth 100000
set_option linter.unusedVariables false

/-- a text's value -/
def St (l : List UInt8) : Value := .string ⟨l.toArray⟩

def bl (s : ByteArray) : List UInt8 := s.data.toList
theorem bl_len (s : ByteArray) : (bl s).length = s.size := Array.length_toList
theorem bl_get (s : ByteArray) (k : Nat) (h : k < s.size) : (bl s)[k]? = some (s[k]'h) := by
  have : k < (bl s).length := by rw [bl_len]; exact h
  rw [List.getElem?_eq_getElem this]
  rfl
theorem bl_mk (s : ByteArray) : ByteArray.mk (bl s).toArray = s := by cases s; simp [bl]

/-- the tails behind a rune's first byte -/
def accT (r : Nat) : List UInt8 → Option Nat
  | [] => some r
  | d :: t => if tailB d then accT (r * 64 + (d.toNat - 128)) t else none
def seenT (least n : Nat) : Option Nat → Nat × Nat
  | none => (65533, 1)
  | some r => if decide (least ≤ r) && okR r then (r, n) else (65533, 1)
theorem accT_lt : ∀ (t : List UInt8) (r : Nat) (v : Nat), accT r t = some v → v < (r + 1) * 64 ^ t.length
  | [], r, v, h => by simp [accT] at h; simp; omega
  | d :: t, r, v, h => by
    simp only [accT] at h
    split at h
    · have hd := d.toNat_lt
      have := accT_lt t _ v h
      have h2 : (r * 64 + (d.toNat - 128) + 1) * 64 ^ t.length ≤ ((r + 1) * 64) * 64 ^ t.length := by
        apply Nat.mul_le_mul_right
        have ht : tailB d = true := by assumption
        simp [tailB] at ht
        omega
      simp only [List.length_cons, Nat.pow_succ]
      have h3 : (r + 1) * (64 ^ t.length * 64) = (r + 1) * 64 * 64 ^ t.length := by
        rw [Nat.mul_comm (64 ^ t.length) 64, Nat.mul_assoc]
      omega
    · cases h
theorem first_two (c : UInt8) (t : List UInt8) (h1 : 192 ≤ c.toNat) (h2 : c.toNat < 224) : firstL (c :: t) = if t.length < 1 then (65533, 1) else seenT 128 2 (accT (c.toNat - 192) (t.take 1)) := by
  cases t with
  | nil => simp [firstL, h1, h2]; omega
  | cons d t =>
    have a : ¬ c.toNat < 128 := by omega
    have hd := d.toNat_lt
    by_cases t1 : tailB d = true
    · have ho : okR ((c.toNat - 192) * 64 + (d.toNat - 128)) = true := by simp [okR]; omega
      simp [firstL, h1, h2, a, accT, t1, seenT, ho]
    · simp [firstL, h1, h2, a, accT, t1, seenT]
theorem first_three (c : UInt8) (t : List UInt8) (h1 : 224 ≤ c.toNat) (h2 : c.toNat < 240) : firstL (c :: t) = if t.length < 2 then (65533, 1) else seenT 2048 3 (accT (c.toNat - 224) (t.take 2)) := by
  have a : ¬ c.toNat < 128 := by omega
  have b : ¬ (192 ≤ c.toNat ∧ c.toNat < 224) := by omega
  match t with
  | [] => simp [firstL, h1, h2, a, b]
  | [d] => simp [firstL, h1, h2, a, b]
  | d :: e :: t =>
    by_cases t1 : tailB d = true
    · by_cases t2 : tailB e = true
      · simp [firstL, h1, h2, a, b, accT, t1, t2, seenT]; omega
      · simp [firstL, h1, h2, a, b, accT, t1, t2, seenT]
    · simp [firstL, h1, h2, a, b, accT, t1, seenT]
theorem first_four (c : UInt8) (t : List UInt8) (h1 : 240 ≤ c.toNat) (h2 : c.toNat < 248) : firstL (c :: t) = if t.length < 3 then (65533, 1) else seenT 65536 4 (accT (c.toNat - 240) (t.take 3)) := by
  have a : ¬ c.toNat < 128 := by omega
  have b : ¬ (192 ≤ c.toNat ∧ c.toNat < 224) := by omega
  have b' : ¬ (224 ≤ c.toNat ∧ c.toNat < 240) := by omega
  match t with
  | [] => simp [firstL, h1, h2, a, b, b']
  | [d] => simp [firstL, h1, h2, a, b, b']
  | [d, e] => simp [firstL, h1, h2, a, b, b']
  | d :: e :: f :: t =>
    by_cases t1 : tailB d = true
    · by_cases t2 : tailB e = true
      · by_cases t3 : tailB f = true
        · simp [firstL, h1, h2, a, b, b', accT, t1, t2, t3, seenT]; omega
        · simp [firstL, h1, h2, a, b, b', accT, t1, t2, t3, seenT]
      · simp [firstL, h1, h2, a, b, b', accT, t1, t2, seenT]
    · simp [firstL, h1, h2, a, b, b', accT, t1, seenT]
theorem first_else (c : UInt8) (t : List UInt8) (h1 : 128 ≤ c.toNat) (h2 : c.toNat < 192 ∨ 248 ≤ c.toNat) : firstL (c :: t) = (65533, 1) := by
  have a : ¬ c.toNat < 128 := by omega
  have b : ¬ (192 ≤ c.toNat ∧ c.toNat < 224) := by omega
  have b' : ¬ (224 ≤ c.toNat ∧ c.toNat < 240) := by omega
  have b'' : ¬ (240 ≤ c.toNat ∧ c.toNat < 248) := by omega
  simp [firstL, a, b, b', b'']
end Go.Proofs.Ytleachcokgjocab
