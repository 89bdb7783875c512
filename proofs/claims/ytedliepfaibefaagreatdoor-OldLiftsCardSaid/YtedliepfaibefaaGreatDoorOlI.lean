/-
  What a version tells, as values of an interface: made, next, of.
-/
import Derived.Test.YtedliepfaibefaaGreatDoorOlB2

import Derived.Test.YtedliepfaibefaaGreatDoorUtR
namespace Go.Proofs.YtedliepfaibefaaGreatDoor
open Go.RowKit Go.Nst
set_option maxRecDepth 100000
set_option linter.unusedVariables false
set_option linter.unusedSimpArgs false

theorem own_lit (w : World) {base : Nat} (e : TypeId) (s n : Nat) (xs : List Value) (cs : Array Value) (hcs : cs.toList = xs) (hl : xs.length = n * s) (hn : n ≤ 1000) (hb : base ≤ w.heap.size) : (w.alloc (.cells cs e)).ownsRow base e s (.slice (some ⟨w.heap.size, 0, none⟩) n n) n xs :=
  ⟨by rw [hl], .inr ⟨w.heap.size, n, cs, rfl, hb, heap_alloc_new w _, Nat.le_refl _, by unfold maxLen; omega, by rw [← Array.length_toList, hcs, hl], by rw [hcs, List.take_of_length_le (by rw [hl]; exact Nat.le_refl _)]⟩⟩
/-- a row of the call's own: n elements of s cells each -/
def RetRow (E : TypeId) (s : Nat) (w : World) (n : Nat) (xs : List Value) (e : Ending) (w' : World) : Prop := ∃ A c, e = .returned (.slice A n c) ∧ w'.ownsRow w.heap.size E s (.slice A n c) n xs ∧ Below w.heap.size w w'
theorem RetRow.nil {E : TypeId} {s : Nat} {w w' : World} {v : Value} (hv : v = .slice none 0 0) (hb : Below w.heap.size w w') : RetRow E s w 0 [] (.returned v) w' := ⟨none, 0, by rw [hv], World.ownsRow_nil _ _ _ _, hb⟩
theorem RetRow.of {E : TypeId} {s n c : Nat} {w w' : World} {v : Value} {A : Option Addr} {xs : List Value} (hv : v = .slice A n c) (h : w'.ownsRow w.heap.size E s (.slice A n c) n xs) (hb : Below w.heap.size w w') : RetRow E s w n xs (.returned v) w' := ⟨A, c, by rw [hv], h, hb⟩
theorem RetRow.lit {E : TypeId} {s n : Nat} {w w1 w' : World} {v : Value} {xs : List Value} {cs : Array Value} (hw : w' = w1.alloc (.cells cs E)) (hv : v = .slice (some ⟨w1.heap.size, 0, none⟩) n n) (hcs : cs.toList = xs) (hl : xs.length = n * s) (hn : n ≤ 1000) (hB : Below w.heap.size w w1) : RetRow E s w n xs (.returned v) w' := by
  subst hw
  exact RetRow.of hv (own_lit w1 E s n xs cs hcs hl hn hB.size) (bel_alloc hB _)
/-- what is lifted, as cells -/
def lfOne (v k a b n : Int) (s t : List UInt8) : Value := .iface 105 (.agg (OC v k a b n s t))
def lfTwo (v k a b n : Int) (s t : List UInt8) : Value := .iface 79 (.agg (OC v k a b n s t))
def lfThree (k a b n : Int) (s t u : List UInt8) : Value := .iface 82 (.agg (evV k a b n s t u))
theorem iLift : Info Tryz.prog 75 78 .nilIface 1 16 := Info.mk_ Tryz.underlying75 (by kernel_rfl) rfl (by omega)
abbrev RetL := RetRow 78 1

theorem made_any (v k a b n : Int) (s t : List UInt8) (w : World) : Calls Tryz.prog 143 #[.agg (OC v k a b n s t)] w (RetL w 1 [lfTwo 2 k a b n s t]) := by
  simp only [OC, lfTwo]
  go_enter Tryz.func143, Tryz.ntmps143
  go_wp2_with fail
  go_ret
  have hB := bel_alloc (Below.refl w.heap.size w) (.cells #[.int .i64 2, .int .i64 k, .int .i64 a, .int .i64 b, .int .i64 n, .string ⟨s.toArray⟩, .string ⟨t.toArray⟩] 25)
  exact RetRow.lit rfl (by first | rfl | simp) rfl rfl (by omega) hB
theorem threeNext_any (k a b n : Int) (s t u : List UInt8) (w : World) : Calls Tryz.prog 141 #[.agg (evV k a b n s t u)] w (RetL w 1 [lfThree k a b n s t u]) := by
  simp only [evV, lfThree]
  go_enter Tryz.func141, Tryz.ntmps141
  go_wp2_with fail
  go_ret
  have hB := bel_alloc (Below.refl w.heap.size w) (.cells #[.int .i64 k, .int .i64 a, .int .i64 b, .int .i64 n, .string ⟨s.toArray⟩, .string ⟨t.toArray⟩, .string ⟨u.toArray⟩] 82)
  exact RetRow.lit rfl (by first | rfl | simp) rfl rfl (by omega) hB
def twoL (k a b n : Int) (s t : List UInt8) : List Value := if evOK k a b n s t [] then [lfThree k a b n s t []] else []
theorem twoNext_any (v k a b n : Int) (s t : List UInt8) (w : World) (hs : s.length ≤ 20000) (ht : t.length ≤ 20000) : Calls Tryz.prog 39 #[.agg (OC v k a b n s t)] w (RetL w (twoL k a b n s t).length (twoL k a b n s t)) := by
  have HC := Lib.hid (fun W => check14_any k a b n s t [] W hs ht (by simp))
  have B0 := bel_alloc (bel_alloc (Below.refl w.heap.size w) (.cells (OC v k a b n s t) 79)) (.cells (evV k a b n s t []) 45)
  have he0 : Blk ((w.alloc (.cells (OC v k a b n s t) 79)).alloc (.cells (evV k a b n s t []) 45)) (w.heap.size + 1) 45 (evV k a b n s t []) := by
    have := Blk.new (w.alloc (.cells (OC v k a b n s t) 79)) 45 (evV k a b n s t [])
    simpa using this
  unfold twoL
  cases hok : evOK k a b n s t [] with
  | false =>
    rw [hok] at HC
    clear hok
    simp only [OC, evV] at *
    go_enter Tryz.func39, Tryz.ntmps39
    go_wp2_with fail
    (with_reducible refine (HC.out _).mono ?_)
    rintro e w1 ⟨rfl, hb1⟩
    go_wp2_with fail
    go_ret
    exact RetRow.nil rfl (bel_step B0 hb1)
  | true =>
    rw [hok] at HC
    clear hok
    simp only [OC, evV, lfThree] at *
    go_enter Tryz.func39, Tryz.ntmps39
    go_wp2_with fail
    (with_reducible refine (HC.out _).mono ?_)
    rintro e w1 ⟨rfl, hb1⟩
    have he1 := he0.below hb1 he0.lt
    have y0 := he1.cell 0
    have y1 := he1.cell 1
    have y2 := he1.cell 2
    have y3 := he1.cell 3
    have y4 := he1.cell 4
    have y5 := he1.cell 5
    have y6 := he1.cell 6
    try simp only [evV] at y0 y1 y2 y3 y4 y5 y6
    simp at y0 y1 y2 y3 y4 y5 y6
    have B1 := bel_step B0 hb1
    clear he0 hb1 B0
    go_wp2_with fail
    go_ret
    exact RetRow.lit rfl (by first | rfl | simp) rfl rfl (by omega) B1
/-- a text, clean, cut, clean -/
def shortT (l : List UInt8) (n : Int) : List UInt8 := cleanT (cutT (cleanT l) n)
theorem short16_any (l : List UInt8) (n : Int) (w : World) (hl : l.length ≤ 10000) (h0 : -9223372036854775808 ≤ n) (h1 : n ≤ 9223372036854775807) : Calls Tryz.prog 144 #[.string ⟨l.toArray⟩, .int .i64 n] w (RetS w (shortT l n)) := by
  have H1 := Lib.hid (fun W => clean_l l W (by omega))
  have hc1 := cleanT_len l
  have H2 := Lib.hid (fun W => cut_l (cleanT l) n W (by omega) h0 h1)
  have hc2 := cutT_len (cleanT l) n
  have H3 := Lib.hid (fun W => clean_l (cutT (cleanT l) n) W (by omega))
  unfold shortT
  generalize cleanT l = l1 at *
  generalize cutT l1 n = l2 at *
  generalize cleanT l2 = l3 at *
  go_enter Tryz.func144, Tryz.ntmps144
  go_wp2_with fail
  (with_reducible refine (H1.out _).mono ?_)
  rintro e w1 ⟨rfl, hb1⟩
  go_wp2_with fail
  (with_reducible refine (H2.out _).mono ?_)
  rintro e w2 ⟨rfl, hb2⟩
  go_wp2_with fail
  (with_reducible refine (H3.out _).mono ?_)
  rintro e w3 ⟨rfl, hb3⟩
  go_wp2_with fail
  go_ret
  exact ⟨rfl, bel_step (bel_step hb1 hb2) hb3⟩
end Go.Proofs.YtedliepfaibefaaGreatDoor
