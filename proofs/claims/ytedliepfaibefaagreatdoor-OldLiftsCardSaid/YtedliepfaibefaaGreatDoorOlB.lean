/-
  old.Check, the reference's Uses and Check.
-/
import Derived.Test.YtedliepfaibefaaGreatDoorOlA
namespace Go.Proofs.YtedliepfaibefaaGreatDoor
open Go.RowKit Go.Nst
set_option maxRecDepth 100000
set_option linter.unusedVariables false
set_option linter.unusedSimpArgs false

theorem bitF_0 {m : Nat} (h : m < 8) : (bits .and .i64 (m : Int) 1 == 0) = !bitB m 0 := by
  rcases (by omega : m = 0 ∨ m = 1 ∨ m = 2 ∨ m = 3 ∨ m = 4 ∨ m = 5 ∨ m = 6 ∨ m = 7) with rfl | rfl | rfl | rfl | rfl | rfl | rfl | rfl <;> decide
theorem bitF_1 {m : Nat} (h : m < 8) : (bits .and .i64 ((m : Int) / 2) 1 == 0) = !bitB m 1 := by
  rcases (by omega : m = 0 ∨ m = 1 ∨ m = 2 ∨ m = 3 ∨ m = 4 ∨ m = 5 ∨ m = 6 ∨ m = 7) with rfl | rfl | rfl | rfl | rfl | rfl | rfl | rfl <;> decide
theorem bitF_2 {m : Nat} (h : m < 8) : (bits .and .i64 ((m : Int) / 4) 1 == 0) = !bitB m 2 := by
  rcases (by omega : m = 0 ∨ m = 1 ∨ m = 2 ∨ m = 3 ∨ m = 4 ∨ m = 5 ∨ m = 6 ∨ m = 7) with rfl | rfl | rfl | rfl | rfl | rfl | rfl | rfl <;> decide
theorem arrO_0 (W : World) (x0 x1 : Option Addr) : (Instr.index 59 (.agg #[.pointer x0, .pointer x1]) (.int .i64 0)).run Tryz.prog W = .ok (.pointer x0) W := by kernel_rfl
theorem arrO_1 (W : World) (x0 x1 : Option Addr) : (Instr.index 59 (.agg #[.pointer x0, .pointer x1]) (.int .i64 1)).run Tryz.prog W = .ok (.pointer x1) W := by kernel_rfl
structure Ol where
  v : Int
  k : Int
  a : Int
  b : Int
  n : Int
  s : List UInt8
  t : List UInt8
deriving DecidableEq
def Ol.cells (o : Ol) : Array Value := OC o.v o.k o.a o.b o.n o.s o.t
def Ol.zero : Ol := ⟨0, 0, 0, 0, 0, [], []⟩
def chkN (m i : Nat) (x : Int) : Bool := mayB x && (bitB m i || x == 0)
def chkT (q i : Nat) (x : List UInt8) : Bool := decide (x.length ≤ 1024) && (bitB q i || x.isEmpty)
def okT (q : Nat) (i : Bool) (s t : List UInt8) : Nat → Bool
  | 0 => chkT q 0 s && (chkT q 1 t && i)
  | 1 => chkT q 1 t && i
  | _ => i
def okN (m q : Nat) (i : Bool) (a b n : Int) (s t : List UInt8) : Nat → Bool
  | 0 => chkN m 0 a && (chkN m 1 b && (chkN m 2 n && okT q i s t 0))
  | 1 => chkN m 1 b && (chkN m 2 n && okT q i s t 0)
  | 2 => chkN m 2 n && okT q i s t 0
  | _ => okT q i s t 0
def Ol.ok (o : Ol) : Bool := okN (sN o.v o.k) (sT o.v o.k) (sI o.v o.k) o.a o.b o.n o.s o.t 0
/-- the object, its shape and the places of its texts stand -/
structure OS (w wr : World) (gs gt : Nat) (o : Array Value) (m q : Nat) (i : Bool) : Prop where
  ob : Blk wr w.heap.size 25 o
  sh : Blk wr gs 54 #[.int .i64 (m : Int), .int .i64 (q : Int), .bool i]
  tx : Blk wr gt 59 #[.pointer (some ⟨w.heap.size, 5, none⟩), .pointer (some ⟨w.heap.size, 6, none⟩)]
  bel : Below w.heap.size w wr
theorem OS.below {w wr w3 : World} {gs gt : Nat} {o : Array Value} {m q : Nat} {i : Bool} (h : OS w wr gs gt o m q i) (hb : Below wr.heap.size wr w3) : OS w w3 gs gt o m q i :=
  ⟨h.ob.below hb h.ob.lt, h.sh.below hb h.sh.lt, h.tx.below hb h.tx.lt, bel_step h.bel hb⟩
theorem refUses16_1_1 (w : World) : Calls Tryz.prog 33 #[.int .i64 1, .int .i64 1] w fun e w' => e = .returned (.tuple #[.int .i64 1, .int .i64 1, .bool true]) ∧ w = w' := by
  go_enter Tryz.func33, Tryz.ntmps33
  go_wp2_with fail
  go_ret3
  exact ⟨rfl, rfl⟩
theorem refUses16_1_2 (w : World) : Calls Tryz.prog 33 #[.int .i64 1, .int .i64 2] w fun e w' => e = .returned (.tuple #[.int .i64 1, .int .i64 0, .bool true]) ∧ w = w' := by
  go_enter Tryz.func33, Tryz.ntmps33
  go_wp2_with fail
  go_ret3
  exact ⟨rfl, rfl⟩
theorem refUses16_1_3 (w : World) : Calls Tryz.prog 33 #[.int .i64 1, .int .i64 3] w fun e w' => e = .returned (.tuple #[.int .i64 3, .int .i64 3, .bool true]) ∧ w = w' := by
  go_enter Tryz.func33, Tryz.ntmps33
  go_wp2_with fail
  go_ret3
  exact ⟨rfl, rfl⟩
theorem refUses16_1_4 (w : World) : Calls Tryz.prog 33 #[.int .i64 1, .int .i64 4] w fun e w' => e = .returned (.tuple #[.int .i64 5, .int .i64 0, .bool true]) ∧ w = w' := by
  go_enter Tryz.func33, Tryz.ntmps33
  go_wp2_with fail
  go_ret3
  exact ⟨rfl, rfl⟩
theorem refUses16_1_5 (w : World) : Calls Tryz.prog 33 #[.int .i64 1, .int .i64 5] w fun e w' => e = .returned (.tuple #[.int .i64 5, .int .i64 1, .bool true]) ∧ w = w' := by
  go_enter Tryz.func33, Tryz.ntmps33
  go_wp2_with fail
  go_ret3
  exact ⟨rfl, rfl⟩
theorem refUses16_1_0 (k : Int) (hk : ¬ (1 ≤ k ∧ k ≤ 5)) (w : World) : Calls Tryz.prog 33 #[.int .i64 1, .int .i64 k] w fun e w' => e = .returned (.tuple #[.int .i64 0, .int .i64 0, .bool false]) ∧ w = w' := by
  have e1 : (k == 1) = false := by simp; omega
  have e2 : (k == 2) = false := by simp; omega
  have e3 : (k == 3) = false := by simp; omega
  have e4 : (k == 4) = false := by simp; omega
  have e5 : (k == 5) = false := by simp; omega
  clear hk
  go_enter Tryz.func33, Tryz.ntmps33
  go_wp2_with fail
  go_ret3
  exact ⟨rfl, rfl⟩
theorem refUses16_2_1 (w : World) : Calls Tryz.prog 33 #[.int .i64 2, .int .i64 1] w fun e w' => e = .returned (.tuple #[.int .i64 1, .int .i64 1, .bool true]) ∧ w = w' := by
  go_enter Tryz.func33, Tryz.ntmps33
  go_wp2_with fail
  go_ret3
  exact ⟨rfl, rfl⟩
theorem refUses16_2_2 (w : World) : Calls Tryz.prog 33 #[.int .i64 2, .int .i64 2] w fun e w' => e = .returned (.tuple #[.int .i64 1, .int .i64 0, .bool true]) ∧ w = w' := by
  go_enter Tryz.func33, Tryz.ntmps33
  go_wp2_with fail
  (with_reducible refine (refUses15_2 w).mono ?_)
  rintro e w1 ⟨rfl, rfl⟩
  go_wp2_with fail
  go_ret3
  exact ⟨rfl, rfl⟩
theorem refUses16_2_3 (w : World) : Calls Tryz.prog 33 #[.int .i64 2, .int .i64 3] w fun e w' => e = .returned (.tuple #[.int .i64 3, .int .i64 3, .bool true]) ∧ w = w' := by
  go_enter Tryz.func33, Tryz.ntmps33
  go_wp2_with fail
  (with_reducible refine (refUses15_3 w).mono ?_)
  rintro e w1 ⟨rfl, rfl⟩
  go_wp2_with fail
  go_ret3
  exact ⟨rfl, rfl⟩
theorem refUses16_2_4 (w : World) : Calls Tryz.prog 33 #[.int .i64 2, .int .i64 4] w fun e w' => e = .returned (.tuple #[.int .i64 1, .int .i64 0, .bool true]) ∧ w = w' := by
  go_enter Tryz.func33, Tryz.ntmps33
  go_wp2_with fail
  (with_reducible refine (refUses15_4 w).mono ?_)
  rintro e w1 ⟨rfl, rfl⟩
  go_wp2_with fail
  go_ret3
  exact ⟨rfl, rfl⟩
theorem refUses16_2_5 (w : World) : Calls Tryz.prog 33 #[.int .i64 2, .int .i64 5] w fun e w' => e = .returned (.tuple #[.int .i64 1, .int .i64 2, .bool true]) ∧ w = w' := by
  go_enter Tryz.func33, Tryz.ntmps33
  go_wp2_with fail
  (with_reducible refine (refUses15_5 w).mono ?_)
  rintro e w1 ⟨rfl, rfl⟩
  go_wp2_with fail
  go_ret3
  exact ⟨rfl, rfl⟩
theorem refUses16_2_6 (w : World) : Calls Tryz.prog 33 #[.int .i64 2, .int .i64 6] w fun e w' => e = .returned (.tuple #[.int .i64 3, .int .i64 0, .bool true]) ∧ w = w' := by
  go_enter Tryz.func33, Tryz.ntmps33
  go_wp2_with fail
  (with_reducible refine (refUses15_6 w).mono ?_)
  rintro e w1 ⟨rfl, rfl⟩
  go_wp2_with fail
  go_ret3
  exact ⟨rfl, rfl⟩
theorem refUses16_2_7 (w : World) : Calls Tryz.prog 33 #[.int .i64 2, .int .i64 7] w fun e w' => e = .returned (.tuple #[.int .i64 7, .int .i64 3, .bool true]) ∧ w = w' := by
  go_enter Tryz.func33, Tryz.ntmps33
  go_wp2_with fail
  go_ret3
  exact ⟨rfl, rfl⟩
theorem refUses16_2_8 (w : World) : Calls Tryz.prog 33 #[.int .i64 2, .int .i64 8] w fun e w' => e = .returned (.tuple #[.int .i64 5, .int .i64 0, .bool true]) ∧ w = w' := by
  go_enter Tryz.func33, Tryz.ntmps33
  go_wp2_with fail
  (with_reducible refine (refUses15_8 w).mono ?_)
  rintro e w1 ⟨rfl, rfl⟩
  go_wp2_with fail
  go_ret3
  exact ⟨rfl, rfl⟩
theorem refUses16_2_9 (w : World) : Calls Tryz.prog 33 #[.int .i64 2, .int .i64 9] w fun e w' => e = .returned (.tuple #[.int .i64 5, .int .i64 0, .bool true]) ∧ w = w' := by
  go_enter Tryz.func33, Tryz.ntmps33
  go_wp2_with fail
  (with_reducible refine (refUses15_9 w).mono ?_)
  rintro e w1 ⟨rfl, rfl⟩
  go_wp2_with fail
  go_ret3
  exact ⟨rfl, rfl⟩
theorem refUses16_2_10 (w : World) : Calls Tryz.prog 33 #[.int .i64 2, .int .i64 10] w fun e w' => e = .returned (.tuple #[.int .i64 5, .int .i64 1, .bool true]) ∧ w = w' := by
  go_enter Tryz.func33, Tryz.ntmps33
  go_wp2_with fail
  (with_reducible refine (refUses15_10 w).mono ?_)
  rintro e w1 ⟨rfl, rfl⟩
  go_wp2_with fail
  go_ret3
  exact ⟨rfl, rfl⟩
theorem refUses16_2_11 (w : World) : Calls Tryz.prog 33 #[.int .i64 2, .int .i64 11] w fun e w' => e = .returned (.tuple #[.int .i64 1, .int .i64 3, .bool true]) ∧ w = w' := by
  go_enter Tryz.func33, Tryz.ntmps33
  go_wp2_with fail
  (with_reducible refine (refUses15_11 w).mono ?_)
  rintro e w1 ⟨rfl, rfl⟩
  go_wp2_with fail
  go_ret3
  exact ⟨rfl, rfl⟩
theorem refUses16_2_12 (w : World) : Calls Tryz.prog 33 #[.int .i64 2, .int .i64 12] w fun e w' => e = .returned (.tuple #[.int .i64 1, .int .i64 0, .bool true]) ∧ w = w' := by
  go_enter Tryz.func33, Tryz.ntmps33
  go_wp2_with fail
  (with_reducible refine (refUses15_12 w).mono ?_)
  rintro e w1 ⟨rfl, rfl⟩
  go_wp2_with fail
  go_ret3
  exact ⟨rfl, rfl⟩
theorem refUses16_2_13 (w : World) : Calls Tryz.prog 33 #[.int .i64 2, .int .i64 13] w fun e w' => e = .returned (.tuple #[.int .i64 4, .int .i64 0, .bool true]) ∧ w = w' := by
  go_enter Tryz.func33, Tryz.ntmps33
  go_wp2_with fail
  (with_reducible refine (refUses15_13 w).mono ?_)
  rintro e w1 ⟨rfl, rfl⟩
  go_wp2_with fail
  go_ret3
  exact ⟨rfl, rfl⟩
theorem refUses16_2_lo (k : Int) (hk : k < 1) (w : World) : Calls Tryz.prog 33 #[.int .i64 2, .int .i64 k] w fun e w' => e = .returned (.tuple #[.int .i64 0, .int .i64 0, .bool false]) ∧ w = w' := by
  have e1 : decide (k < 1) = true := by simpa using hk
  clear hk
  go_enter Tryz.func33, Tryz.ntmps33
  go_wp2_with fail
  go_ret3
  exact ⟨rfl, rfl⟩
theorem refUses16_2_hi (k : Int) (hk : 13 < k) (w : World) : Calls Tryz.prog 33 #[.int .i64 2, .int .i64 k] w fun e w' => e = .returned (.tuple #[.int .i64 0, .int .i64 0, .bool false]) ∧ w = w' := by
  have e1 : decide (k < 1) = false := by simp; omega
  have e2 : decide (13 < k) = true := by simpa using hk
  clear hk
  go_enter Tryz.func33, Tryz.ntmps33
  go_wp2_with fail
  go_ret3
  exact ⟨rfl, rfl⟩
theorem refUses16_0 (v k : Int) (h1 : v ≠ 1) (h2 : v ≠ 2) (w : World) : Calls Tryz.prog 33 #[.int .i64 v, .int .i64 k] w fun e w' => e = .returned (.tuple #[.int .i64 0, .int .i64 0, .bool false]) ∧ w = w' := by
  have e1 : (v == 1) = false := by simpa using h1
  have e2 : (v != 2) = true := by simpa using h2
  clear h1 h2
  go_enter Tryz.func33, Tryz.ntmps33
  go_wp2_with fail
  go_ret3
  exact ⟨rfl, rfl⟩
theorem usesN_out {k : Int} (h : ¬ (1 ≤ k ∧ k ≤ 13)) : usesN k = 0 := by unfold usesN; iterate 13 (rw [if_neg (by omega)])
theorem usesT_out {k : Int} (h : ¬ (1 ≤ k ∧ k ≤ 13)) : usesT k = 0 := by unfold usesT; iterate 13 (rw [if_neg (by omega)])
theorem refUses16_any (v k : Int) (w : World) : Calls Tryz.prog 33 #[.int .i64 v, .int .i64 k] w fun e w' => e = .returned (.tuple #[.int .i64 ((sN v k : Nat) : Int), .int .i64 ((sT v k : Nat) : Int), .bool (sI v k)]) ∧ w = w' := by
  by_cases h1 : v = 1
  · subst h1
    by_cases hk : 1 ≤ k ∧ k ≤ 5
    · rcases (by omega : k = 1 ∨ k = 2 ∨ k = 3 ∨ k = 4 ∨ k = 5) with rfl | rfl | rfl | rfl | rfl
      · exact refUses16_1_1 w
      · exact refUses16_1_2 w
      · exact refUses16_1_3 w
      · exact refUses16_1_4 w
      · exact refUses16_1_5 w
    · have z1 : sN 1 k = 0 := by unfold sN n1; rw [if_pos rfl]; (repeat' split) <;> omega
      have z2 : sT 1 k = 0 := by unfold sT t1; rw [if_pos rfl]; (repeat' split) <;> omega
      have z3 : sI 1 k = false := by unfold sI i1; simp; omega
      rw [z1, z2, z3]
      exact refUses16_1_0 k hk w
  · by_cases h2 : v = 2
    · subst h2
      by_cases hk : 1 ≤ k ∧ k ≤ 13
      · rcases kind_cases k hk with rfl | rfl | rfl | rfl | rfl | rfl | rfl | rfl | rfl | rfl | rfl | rfl | rfl
        · exact refUses16_2_1 w
        · exact refUses16_2_2 w
        · exact refUses16_2_3 w
        · exact refUses16_2_4 w
        · exact refUses16_2_5 w
        · exact refUses16_2_6 w
        · exact refUses16_2_7 w
        · exact refUses16_2_8 w
        · exact refUses16_2_9 w
        · exact refUses16_2_10 w
        · exact refUses16_2_11 w
        · exact refUses16_2_12 w
        · exact refUses16_2_13 w
      · have z1 : sN 2 k = 0 := by unfold sN n2; rw [if_neg (by omega), if_pos rfl, if_neg (by omega)]; exact usesN_out hk
        have z2 : sT 2 k = 0 := by unfold sT t2; rw [if_neg (by omega), if_pos rfl, if_neg (by omega)]; exact usesT_out hk
        have z3 : sI 2 k = false := by unfold sI i2; simp; omega
        rw [z1, z2, z3]
        by_cases hlo : k < 1
        · exact refUses16_2_lo k hlo w
        · exact refUses16_2_hi k (by omega) w
    · have z1 : sN v k = 0 := by unfold sN; rw [if_neg h1, if_neg h2]
      have z2 : sT v k = 0 := by unfold sT; rw [if_neg h1, if_neg h2]
      have z3 : sI v k = false := by unfold sI; rw [if_neg h1, if_neg h2]
      rw [z1, z2, z3]
      exact refUses16_0 v k h1 h2 w
end Go.Proofs.YtedliepfaibefaaGreatDoor
