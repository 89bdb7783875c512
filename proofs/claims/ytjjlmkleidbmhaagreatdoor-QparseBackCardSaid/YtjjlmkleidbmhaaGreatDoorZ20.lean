/-
  Queries' texts and what they lean on, part 20: only what the claims need.
-/
import Derived.Test.YtjjlmkleidbmhaaGreatDoorZ19
import Derived.Test.YtjjlmkleidbmhaaGreatDoorZ13
import Derived.Test.YtjjlmkleidbmhaaGreatDoorZ12
import Derived.Test.YtjjlmkleidbmhaaGreatDoorZ15
section
namespace Go.Proofs.YtjjlmkleidbmhaaGreatDoor
open Go.ChangeShapes Go.WideShapes Go.ChangeAt Go.Deep
open Go.RowKit Go.Nst
set_option maxRecDepth 100000
set_option linter.unusedVariables false
set_option linter.unusedSimpArgs false

set_option maxHeartbeats 1000000 in
theorem rleaf26_all (i : Int) (A : Option Addr) (k c : Nat) (w : World) : Calls Tryz.prog 29 #[.agg #[.int .i64 1, .int .i64 0, .string ⟨#[]⟩, .slice A k c], .int .i64 i] w (RetTx26 w (tAll)) := by
  have B0 := bel_alloc (Below.refl w.heap.size w) (.cells #[.int .i64 1, .int .i64 0, .string ⟨#[]⟩, .slice A k c] 25)
  by_cases hi : i = 0
  · subst hi
    go_enter Tryz.func29, Tryz.ntmps29
    go_wp2_with fail
    go_ret
    exact ⟨rfl, B0⟩
  · have di : (i == 0) = false := by simpa using hi
    go_enter Tryz.func29, Tryz.ntmps29
    go_wp2_with fail
    go_ret
    exact ⟨rfl, B0⟩
set_option maxHeartbeats 1000000 in
theorem rleaf26_none (i : Int) (A : Option Addr) (k c : Nat) (w : World) : Calls Tryz.prog 29 #[.agg #[.int .i64 2, .int .i64 0, .string ⟨#[]⟩, .slice A k c], .int .i64 i] w (RetTx26 w (tNon)) := by
  have B0 := bel_alloc (Below.refl w.heap.size w) (.cells #[.int .i64 2, .int .i64 0, .string ⟨#[]⟩, .slice A k c] 25)
  by_cases hi : i = 0
  · subst hi
    go_enter Tryz.func29, Tryz.ntmps29
    go_wp2_with fail
    go_ret
    exact ⟨rfl, B0⟩
  · have di : (i == 0) = false := by simpa using hi
    go_enter Tryz.func29, Tryz.ntmps29
    go_wp2_with fail
    go_ret
    exact ⟨rfl, B0⟩
set_option maxHeartbeats 1000000 in
theorem rleaf26_unread (i : Int) (A : Option Addr) (k c : Nat) (w : World) : Calls Tryz.prog 29 #[.agg #[.int .i64 9, .int .i64 0, .string ⟨#[]⟩, .slice A k c], .int .i64 i] w (RetTx26 w (tUnr)) := by
  have B0 := bel_alloc (Below.refl w.heap.size w) (.cells #[.int .i64 9, .int .i64 0, .string ⟨#[]⟩, .slice A k c] 25)
  by_cases hi : i = 0
  · subst hi
    go_enter Tryz.func29, Tryz.ntmps29
    go_wp2_with fail
    go_ret
    exact ⟨rfl, B0⟩
  · have di : (i == 0) = false := by simpa using hi
    go_enter Tryz.func29, Tryz.ntmps29
    go_wp2_with fail
    go_ret
    exact ⟨rfl, B0⟩
set_option maxHeartbeats 1000000 in
theorem rleaf26_starred (i : Int) (A : Option Addr) (k c : Nat) (w : World) : Calls Tryz.prog 29 #[.agg #[.int .i64 10, .int .i64 0, .string ⟨#[]⟩, .slice A k c], .int .i64 i] w (RetTx26 w (tSta)) := by
  have B0 := bel_alloc (Below.refl w.heap.size w) (.cells #[.int .i64 10, .int .i64 0, .string ⟨#[]⟩, .slice A k c] 25)
  by_cases hi : i = 0
  · subst hi
    go_enter Tryz.func29, Tryz.ntmps29
    go_wp2_with fail
    go_ret
    exact ⟨rfl, B0⟩
  · have di : (i == 0) = false := by simpa using hi
    go_enter Tryz.func29, Tryz.ntmps29
    go_wp2_with fail
    go_ret
    exact ⟨rfl, B0⟩
set_option maxHeartbeats 1000000 in
theorem rleaf26_feed (i : Int) (n : Int) (A : Option Addr) (k c : Nat) (w : World) (h0 : 0 ≤ n) (h1 : n ≤ 1048576) : Calls Tryz.prog 29 #[.agg #[.int .i64 6, .int .i64 n, .string ⟨#[]⟩, .slice A k c], .int .i64 i] w (RetTx26 w (pFee ++ Lib.itoa n)) := by
  have B0 := bel_alloc (Below.refl w.heap.size w) (.cells #[.int .i64 6, .int .i64 n, .string ⟨#[]⟩, .slice A k c] 25)
  have HC := Lib.hid (fun W => refDigits14_any n W (by omega) (by omega))
  have hl := Lib.itoa_length_le n (by omega) (by omega)
  have HB0 := Lib.hid B0
  generalize Lib.itoa n = t at *
  have hz : (ByteArray.mk t.toArray).size = t.length := size_of t
  clear B0
  by_cases hi : i = 0
  · subst hi
    go_enter Tryz.func29, Tryz.ntmps29
    go_wp2_with fail
    (with_reducible refine (HC.out _).mono ?_)
    rintro _ w1 ⟨rfl, hw1⟩
    obtain rfl := hw1
    go_wp2_with fail
    go_ret
    exact ⟨by rw [← ba_app26]; rfl, HB0.out⟩
  · have di : (i == 0) = false := by simpa using hi
    go_enter Tryz.func29, Tryz.ntmps29
    go_wp2_with fail
    (with_reducible refine (HC.out _).mono ?_)
    rintro _ w1 ⟨rfl, hw1⟩
    obtain rfl := hw1
    go_wp2_with fail
    go_ret
    exact ⟨by rw [← ba_app26]; rfl, HB0.out⟩
set_option maxHeartbeats 1000000 in
theorem rleaf26_folder (i : Int) (n : Int) (A : Option Addr) (k c : Nat) (w : World) (h0 : 0 ≤ n) (h1 : n ≤ 1048576) : Calls Tryz.prog 29 #[.agg #[.int .i64 7, .int .i64 n, .string ⟨#[]⟩, .slice A k c], .int .i64 i] w (RetTx26 w (pFol ++ Lib.itoa n)) := by
  have B0 := bel_alloc (Below.refl w.heap.size w) (.cells #[.int .i64 7, .int .i64 n, .string ⟨#[]⟩, .slice A k c] 25)
  have HC := Lib.hid (fun W => refDigits14_any n W (by omega) (by omega))
  have hl := Lib.itoa_length_le n (by omega) (by omega)
  have HB0 := Lib.hid B0
  generalize Lib.itoa n = t at *
  have hz : (ByteArray.mk t.toArray).size = t.length := size_of t
  clear B0
  by_cases hi : i = 0
  · subst hi
    go_enter Tryz.func29, Tryz.ntmps29
    go_wp2_with fail
    (with_reducible refine (HC.out _).mono ?_)
    rintro _ w1 ⟨rfl, hw1⟩
    obtain rfl := hw1
    go_wp2_with fail
    go_ret
    exact ⟨by rw [← ba_app26]; rfl, HB0.out⟩
  · have di : (i == 0) = false := by simpa using hi
    go_enter Tryz.func29, Tryz.ntmps29
    go_wp2_with fail
    (with_reducible refine (HC.out _).mono ?_)
    rintro _ w1 ⟨rfl, hw1⟩
    obtain rfl := hw1
    go_wp2_with fail
    go_ret
    exact ⟨by rw [← ba_app26]; rfl, HB0.out⟩
set_option maxHeartbeats 1000000 in
theorem rleaf26_within (i : Int) (n : Int) (A : Option Addr) (k c : Nat) (w : World) (h0 : 0 ≤ n) (h1 : n ≤ 1048576) : Calls Tryz.prog 29 #[.agg #[.int .i64 15, .int .i64 n, .string ⟨#[]⟩, .slice A k c], .int .i64 i] w (RetTx26 w (pWit ++ Lib.itoa n)) := by
  have B0 := bel_alloc (Below.refl w.heap.size w) (.cells #[.int .i64 15, .int .i64 n, .string ⟨#[]⟩, .slice A k c] 25)
  have HC := Lib.hid (fun W => refDigits14_any n W (by omega) (by omega))
  have hl := Lib.itoa_length_le n (by omega) (by omega)
  have HB0 := Lib.hid B0
  generalize Lib.itoa n = t at *
  have hz : (ByteArray.mk t.toArray).size = t.length := size_of t
  clear B0
  by_cases hi : i = 0
  · subst hi
    go_enter Tryz.func29, Tryz.ntmps29
    go_wp2_with fail
    (with_reducible refine (HC.out _).mono ?_)
    rintro _ w1 ⟨rfl, hw1⟩
    obtain rfl := hw1
    go_wp2_with fail
    go_ret
    exact ⟨by rw [← ba_app26]; rfl, HB0.out⟩
  · have di : (i == 0) = false := by simpa using hi
    go_enter Tryz.func29, Tryz.ntmps29
    go_wp2_with fail
    (with_reducible refine (HC.out _).mono ?_)
    rintro _ w1 ⟨rfl, hw1⟩
    obtain rfl := hw1
    go_wp2_with fail
    go_ret
    exact ⟨by rw [← ba_app26]; rfl, HB0.out⟩
set_option maxHeartbeats 1000000 in
theorem rleaf26_before (i : Int) (n : Int) (A : Option Addr) (k c : Nat) (w : World) (hm : mayM n = true) : Calls Tryz.prog 29 #[.agg #[.int .i64 13, .int .i64 n, .string ⟨#[]⟩, .slice A k c], .int .i64 i] w (RetTx26 w (pBef ++ showT (ofD n))) := by
  have B0 := bel_alloc (Below.refl w.heap.size w) (.cells #[.int .i64 13, .int .i64 n, .string ⟨#[]⟩, .slice A k c] 25)
  have HC := Lib.hid (fun W => show4_any n W hm)
  have hl := (showT_run (ofD n)).2
  have HB0 := Lib.hid B0
  generalize showT (ofD n) = t at *
  have hz : (ByteArray.mk t.toArray).size = t.length := size_of t
  clear hm B0
  by_cases hi : i = 0
  · subst hi
    go_enter Tryz.func29, Tryz.ntmps29
    go_wp2_with fail
    (with_reducible refine (HC.out _).mono ?_)
    rintro _ w1 ⟨rfl, hb1⟩
    have hx1 := (Blk.new w 25 #[.int .i64 13, .int .i64 n, .string ⟨#[]⟩, .slice A k c]).below hb1 (by simp)
    obtain ⟨z0, z1, z2, z3, z4, z5⟩ := res_facts hx1
    clear hx1
    go_wp2_with fail
    go_ret
    exact ⟨by rw [← ba_app26]; rfl, bel_step HB0.out hb1⟩
  · have di : (i == 0) = false := by simpa using hi
    go_enter Tryz.func29, Tryz.ntmps29
    go_wp2_with fail
    (with_reducible refine (HC.out _).mono ?_)
    rintro _ w1 ⟨rfl, hb1⟩
    have hx1 := (Blk.new w 25 #[.int .i64 13, .int .i64 n, .string ⟨#[]⟩, .slice A k c]).below hb1 (by simp)
    obtain ⟨z0, z1, z2, z3, z4, z5⟩ := res_facts hx1
    clear hx1
    go_wp2_with fail
    go_ret
    exact ⟨by rw [← ba_app26]; rfl, bel_step HB0.out hb1⟩
set_option maxHeartbeats 1000000 in
theorem rleaf26_since (i : Int) (n : Int) (A : Option Addr) (k c : Nat) (w : World) (hm : mayM n = true) : Calls Tryz.prog 29 #[.agg #[.int .i64 14, .int .i64 n, .string ⟨#[]⟩, .slice A k c], .int .i64 i] w (RetTx26 w (pSin ++ showT (ofD n))) := by
  have B0 := bel_alloc (Below.refl w.heap.size w) (.cells #[.int .i64 14, .int .i64 n, .string ⟨#[]⟩, .slice A k c] 25)
  have HC := Lib.hid (fun W => show4_any n W hm)
  have hl := (showT_run (ofD n)).2
  have HB0 := Lib.hid B0
  generalize showT (ofD n) = t at *
  have hz : (ByteArray.mk t.toArray).size = t.length := size_of t
  clear hm B0
  by_cases hi : i = 0
  · subst hi
    go_enter Tryz.func29, Tryz.ntmps29
    go_wp2_with fail
    (with_reducible refine (HC.out _).mono ?_)
    rintro _ w1 ⟨rfl, hb1⟩
    have hx1 := (Blk.new w 25 #[.int .i64 14, .int .i64 n, .string ⟨#[]⟩, .slice A k c]).below hb1 (by simp)
    obtain ⟨z0, z1, z2, z3, z4, z5⟩ := res_facts hx1
    clear hx1
    go_wp2_with fail
    go_ret
    exact ⟨by rw [← ba_app26]; rfl, bel_step HB0.out hb1⟩
  · have di : (i == 0) = false := by simpa using hi
    go_enter Tryz.func29, Tryz.ntmps29
    go_wp2_with fail
    (with_reducible refine (HC.out _).mono ?_)
    rintro _ w1 ⟨rfl, hb1⟩
    have hx1 := (Blk.new w 25 #[.int .i64 14, .int .i64 n, .string ⟨#[]⟩, .slice A k c]).below hb1 (by simp)
    obtain ⟨z0, z1, z2, z3, z4, z5⟩ := res_facts hx1
    clear hx1
    go_wp2_with fail
    go_ret
    exact ⟨by rw [← ba_app26]; rfl, bel_step HB0.out hb1⟩
set_option maxHeartbeats 1000000 in
theorem rleaf26_tag (i : Int) (s : List UInt8) (A : Option Addr) (k c : Nat) (w : World) (hs : s.length ≤ 20000) : Calls Tryz.prog 29 #[.agg #[.int .i64 8, .int .i64 0, .string ⟨s.toArray⟩, .slice A k c], .int .i64 i] w (RetTx26 w (pTag ++ s)) := by
  have B0 := bel_alloc (Below.refl w.heap.size w) (.cells #[.int .i64 8, .int .i64 0, .string ⟨s.toArray⟩, .slice A k c] 25)
  have hz : (ByteArray.mk s.toArray).size = s.length := size_of s
  by_cases hi : i = 0
  · subst hi
    go_enter Tryz.func29, Tryz.ntmps29
    go_wp2_with fail
    go_ret
    exact ⟨by rw [← ba_app26]; rfl, B0⟩
  · have di : (i == 0) = false := by simpa using hi
    go_enter Tryz.func29, Tryz.ntmps29
    go_wp2_with fail
    go_ret
    exact ⟨by rw [← ba_app26]; rfl, B0⟩
set_option maxHeartbeats 1000000 in
theorem rleaf26_word (i : Int) (s : List UInt8) (A : Option Addr) (k c : Nat) (w : World) (hs : s.length ≤ 20000) : Calls Tryz.prog 29 #[.agg #[.int .i64 11, .int .i64 0, .string ⟨s.toArray⟩, .slice A k c], .int .i64 i] w (RetTx26 w (pWor ++ s)) := by
  have B0 := bel_alloc (Below.refl w.heap.size w) (.cells #[.int .i64 11, .int .i64 0, .string ⟨s.toArray⟩, .slice A k c] 25)
  have hz : (ByteArray.mk s.toArray).size = s.length := size_of s
  by_cases hi : i = 0
  · subst hi
    go_enter Tryz.func29, Tryz.ntmps29
    go_wp2_with fail
    go_ret
    exact ⟨by rw [← ba_app26]; rfl, B0⟩
  · have di : (i == 0) = false := by simpa using hi
    go_enter Tryz.func29, Tryz.ntmps29
    go_wp2_with fail
    go_ret
    exact ⟨by rw [← ba_app26]; rfl, B0⟩
set_option maxHeartbeats 1000000 in
theorem rleaf26_begins (i : Int) (s : List UInt8) (A : Option Addr) (k c : Nat) (w : World) (hs : s.length ≤ 20000) : Calls Tryz.prog 29 #[.agg #[.int .i64 12, .int .i64 0, .string ⟨s.toArray⟩, .slice A k c], .int .i64 i] w (RetTx26 w (pBeg ++ s)) := by
  have B0 := bel_alloc (Below.refl w.heap.size w) (.cells #[.int .i64 12, .int .i64 0, .string ⟨s.toArray⟩, .slice A k c] 25)
  have hz : (ByteArray.mk s.toArray).size = s.length := size_of s
  by_cases hi : i = 0
  · subst hi
    go_enter Tryz.func29, Tryz.ntmps29
    go_wp2_with fail
    go_ret
    exact ⟨by rw [← ba_app26]; rfl, B0⟩
  · have di : (i == 0) = false := by simpa using hi
    go_enter Tryz.func29, Tryz.ntmps29
    go_wp2_with fail
    go_ret
    exact ⟨by rw [← ba_app26]; rfl, B0⟩
theorem rleaf26_any (i : Int) (o n : Int) (s : List UInt8) (A : Option Addr) (k c : Nat) (w : World) (h3 : o ≠ 3) (h4 : o ≠ 4) (h5 : o ≠ 5) (h : oneQ o n s 0 = true) : Calls Tryz.prog 29 #[.agg #[.int .i64 o, .int .i64 n, .string ⟨s.toArray⟩, .slice A k c], .int .i64 i] w (RetTx26 w (leafD o n s)) := by
  have hs := leaf_short h3 h4 h5 h
  rcases leaf_cases h3 h4 h5 h with ⟨ho, rfl, rfl⟩ | ⟨ho, h0, h1, rfl⟩ | ⟨ho, hm, rfl⟩ | ⟨ho, rfl, hw⟩
  · rcases ho with rfl | rfl | rfl | rfl
    · exact rleaf26_all i A k c w
    · exact rleaf26_none i A k c w
    · exact rleaf26_unread i A k c w
    · exact rleaf26_starred i A k c w
  · rcases ho with rfl | rfl | rfl
    · exact rleaf26_feed i n A k c w h0 h1
    · exact rleaf26_folder i n A k c w h0 h1
    · exact rleaf26_within i n A k c w h0 h1
  · rcases ho with rfl | rfl
    · exact rleaf26_before i n A k c w hm
    · exact rleaf26_since i n A k c w hm
  · rcases ho with rfl | rfl | rfl
    · exact rleaf26_tag i s A k c w (by omega)
    · exact rleaf26_word i s A k c w (by omega)
    · exact rleaf26_begins i s A k c w (by omega)
/-- a query within one of an operation; 0: none -/
def shwI (i : Int) (q : Qy) : List UInt8 := if i = 0 then shwD q else shwK leafD i q
def rshowP (q : Qy) : Prop := ∀ (i : Int) (vs : Array Value) (w : World) (S : Nat → Prop), plaQ q = true → nodQ q ≤ 64 → QAt w S vs q → Calls Tryz.prog 29 #[.agg vs, .int .i64 i] w (RetTx26 w (shwI i q))
theorem later26 {w : World} {a : Addr} {v : Value} (h : w.cell? a = some v) : ∀ W, Below w.heap.size w W → W.cell? a = some v := fun W hW => (hW.cell (World.block_lt_of_cell? w _ h)).trans h
set_option maxHeartbeats 4000000 in
theorem rshow26_not (k : Qy) (hk : rshowP k) (i : Int) (A : Option Addr) (c : Nat) (w : World) (S : Nat → Prop) (hc : 1 ≤ c ∧ c ≤ 9223372036854775807) (hp : plaQ k = true) (hn : nodQ k ≤ 63) (hq : QsAt w S A 1 [k]) :
    Calls Tryz.prog 29 #[.agg #[.int .i64 5, .int .i64 0, .string ⟨#[]⟩, .slice A 1 c], .int .i64 i] w (RetTx26 w (shwD ⟨5, 0, [], [k]⟩)) := by
  have b0 := bel_alloc (Below.refl w.heap.size w) (.cells #[.int .i64 5, .int .i64 0, .string ⟨#[]⟩, .slice A 1 c] 25)
  have X0 := Lib.hid (Blk.new w 25 #[.int .i64 5, .int .i64 0, .string ⟨#[]⟩, .slice A 1 c])
  have B0 := Lib.hid b0
  have hl : (shwQ leafD k).length + 10 ≤ 300 * nodQ k := shown_len k hp
  have hlk := shwK_len leafD 5 k
  have HV : Hid (shwD ⟨5, 0, [], [k]⟩ = [110, 111, 116, 32] ++ shwK leafD 5 k) := Lib.hid (by
    simp only [shwD, shwQ]
    rw [if_pos (by trivial), shwL_cons]
    simp [shwL])
  have HK := Lib.hid (hq.bel b0)
  have HI := Lib.hid (fun vs W S' (h : QAt W S' vs k) => hk 5 vs W S' hp (by omega) h)
  rw [HV.out]
  have hsi : shwI 5 k = shwK leafD 5 k := by unfold shwI; rw [if_neg (by decide)]
  rw [hsi] at HI
  generalize shwK leafD 5 k = t at *
  have hz : (ByteArray.mk t.toArray).size = t.length := size_of t
  have htl : t.length ≤ 100000 := by omega
  have hno : ¬ 9223372036854775807 < 4 + t.length := by omega
  obtain ⟨hc1, hc2⟩ := hc
  clear hk hp hn hq b0 hl hlk HV hsi
  by_cases hi : i = 0
  · subst hi
    go_enter Tryz.func29, Tryz.ntmps29
    go_wp2_with fail
    refine wp_region_seq (by kernel_rfl) [(0, true), (1, true), (2, true), (3, true), (4, true), (5, true), (6, false), (7, true), (8, true)] (by kernel_rfl) rfl (by kernel_rfl) ?_
    intro w0 hb0
    have B1 := bel_step B0.out hb0
    obtain ⟨x, B, cx, bk, off, hg, rfl, -, hbs, hx', g1, g2, g3, g4, g5, f0, f1, f2, f3⟩ := (HK.out.bel hb0).at (show 0 < 1 by omega)
    have hxk : x = k := by have := hg.out; simpa using this.symm
    subst hxk
    have HX1 := Lib.hid (X0.out.below hb0 X0.out.lt)
    obtain ⟨p0, p1, p2, p3, p4, p5⟩ := res_facts HX1.out
    simp only [Nat.zero_mul, Nat.add_zero] at f0 f1 f2 f3
    have F0 := later26 f0
    have F1 := later26 f1
    have F2 := later26 f2
    have F3 := later26 f3
    have P0 := later26 p0
    have P3 := later26 p3
    have HC := Lib.hid (HI.out _ w0 _ hx'.out)
    simp only [qV] at HC
    clear hx' f0 f1 f2 f3 p0 p1 p2 p3 p4 p5 hg
    iterate 6 (refine wpSeq_take (o := ⟨_, _, _, _, _, _⟩) (v := ?_) rfl rfl ?_ ?_; rotate_left; (focus (intro W hW; go_simp; first | done | with_reducible rfl)); simp only [Act.put, List.setIfInBounds_toArray, List.set_cons_zero, List.set_cons_succ])
    clear F0 F1 F2 F3 P0 P3
    refine wpSeq_exec (o := ⟨_, _, _, _, _, _⟩) rfl rfl (fun K hK => ?_)
    go_simp
    (with_reducible refine (HC.out).mono ?_)
    rintro e w2 ⟨rfl, hb2⟩
    go_wp2_with fail
    refine hK _ _ hb2 ?_
    clear hK K
    have B2 := bel_step B1 hb2
    have HX2 := Lib.hid (HX1.out.below hb2 HX1.out.lt)
    obtain ⟨p0, p1, p2, p3, p4, p5⟩ := res_facts HX2.out
    iterate 2 (refine wpSeq_take (o := ⟨_, _, _, _, _, _⟩) (v := ?_) rfl rfl ?_ ?_; rotate_left; (focus (intro W hW; go_simp; first | done | with_reducible rfl)); simp only [Act.put, List.setIfInBounds_toArray, List.set_cons_zero, List.set_cons_succ])
    refine wpSeq_nil ?_
    go_wp2_with fail
    go_ret
    exact ⟨congrArg (fun z => Ending.returned (.string z)) (ba_app26 [110, 111, 116, 32] t), B2⟩
  · have di : (i == 0) = false := by simpa using hi
    go_enter Tryz.func29, Tryz.ntmps29
    go_wp2_with fail
    refine wp_region_seq (by kernel_rfl) [(0, true), (1, true), (2, true), (3, true), (4, true), (5, true), (6, false), (7, true), (8, true)] (by kernel_rfl) rfl (by kernel_rfl) ?_
    intro w0 hb0
    have B1 := bel_step B0.out hb0
    obtain ⟨x, B, cx, bk, off, hg, rfl, -, hbs, hx', g1, g2, g3, g4, g5, f0, f1, f2, f3⟩ := (HK.out.bel hb0).at (show 0 < 1 by omega)
    have hxk : x = k := by have := hg.out; simpa using this.symm
    subst hxk
    have HX1 := Lib.hid (X0.out.below hb0 X0.out.lt)
    obtain ⟨p0, p1, p2, p3, p4, p5⟩ := res_facts HX1.out
    simp only [Nat.zero_mul, Nat.add_zero] at f0 f1 f2 f3
    have F0 := later26 f0
    have F1 := later26 f1
    have F2 := later26 f2
    have F3 := later26 f3
    have P0 := later26 p0
    have P3 := later26 p3
    have HC := Lib.hid (HI.out _ w0 _ hx'.out)
    simp only [qV] at HC
    clear hx' f0 f1 f2 f3 p0 p1 p2 p3 p4 p5 hg
    iterate 6 (refine wpSeq_take (o := ⟨_, _, _, _, _, _⟩) (v := ?_) rfl rfl ?_ ?_; rotate_left; (focus (intro W hW; go_simp; first | done | with_reducible rfl)); simp only [Act.put, List.setIfInBounds_toArray, List.set_cons_zero, List.set_cons_succ])
    clear F0 F1 F2 F3 P0 P3
    refine wpSeq_exec (o := ⟨_, _, _, _, _, _⟩) rfl rfl (fun K hK => ?_)
    go_simp
    (with_reducible refine (HC.out).mono ?_)
    rintro e w2 ⟨rfl, hb2⟩
    go_wp2_with fail
    refine hK _ _ hb2 ?_
    clear hK K
    have B2 := bel_step B1 hb2
    have HX2 := Lib.hid (HX1.out.below hb2 HX1.out.lt)
    obtain ⟨p0, p1, p2, p3, p4, p5⟩ := res_facts HX2.out
    iterate 2 (refine wpSeq_take (o := ⟨_, _, _, _, _, _⟩) (v := ?_) rfl rfl ?_ ?_; rotate_left; (focus (intro W hW; go_simp; first | done | with_reducible rfl)); simp only [Act.put, List.setIfInBounds_toArray, List.set_cons_zero, List.set_cons_succ])
    refine wpSeq_nil ?_
    go_wp2_with fail
    go_ret
    exact ⟨congrArg (fun z => Ending.returned (.string z)) (ba_app26 [110, 111, 116, 32] t), B2⟩
/-- the text so far -/
def accS (o : Int) (sp : List UInt8) (l : List Qy) (k : Nat) : List UInt8 := (shwL leafD sp o (l.take k)).drop sp.length
theorem shwL_app (sp : List UInt8) (i : Int) : ∀ a b : List Qy, shwL leafD sp i (a ++ b) = shwL leafD sp i a ++ shwL leafD sp i b
  | [], b => by simp [shwL]
  | k :: a, b => by rw [List.cons_append, shwL_cons, shwL_cons, shwL_app sp i a b]; simp [List.append_assoc]
theorem accS_first (o : Int) (sp : List UInt8) {l : List Qy} {x : Qy} (h : l[0]? = some x) : accS o sp l 1 = shwK leafD o x ∧ accS o sp l 0 = [] := by
  cases l with
  | nil => cases h
  | cons a t =>
    injection h with h
    subst h
    unfold accS
    simp only [List.take_succ_cons, List.take_zero]
    rw [shwL_cons]
    exact ⟨by simp [shwL], by simp [shwL]⟩
theorem accS_step (o : Int) (sp : List UInt8) {l : List Qy} {k : Nat} {x : Qy} (h : l[k]? = some x) (hk : 0 < k) : accS o sp l (k + 1) = accS o sp l k ++ sp ++ shwK leafD o x := by
  unfold accS
  rw [List.take_add_one, h, shwL_app]
  obtain ⟨hl, _⟩ := List.getElem?_eq_some_iff.1 h
  have h0 : sp.length ≤ (shwL leafD sp o (l.take k)).length := by
    cases l with
    | nil => simp at hl
    | cons a t =>
      cases k with
      | zero => omega
      | succ k =>
        rw [List.take_succ_cons, shwL_cons, List.length_append, List.length_append]
        omega
  rw [List.drop_append_of_le_length h0]
  simp [shwL_cons, shwL]
theorem nodL_take0 (l : List Qy) (k : Nat) : nodL (l.take k) 0 ≤ nodL l 0 := nodL_take l 0 k
theorem accS_len (o : Int) (sp : List UInt8) (hsp : sp.length ≤ 4) (l : List Qy) (hp : ∀ k ∈ l, plaQ k = true) (hn : nodL l 0 ≤ 63) (k : Nat) : (accS o sp l k).length ≤ 18900 := by
  unfold accS
  have h1 := shwL_len (lf := leafD) sp hsp o (l.take k) (fun q hq => shown_len q (hp q (List.mem_of_mem_take hq)))
  have h2 := nodL_take0 l k
  rw [List.length_drop]
  omega
set_option maxHeartbeats 8000000 in
theorem rshow26_and (l : List Qy) (hk : ∀ k ∈ l, rshowP k) (i : Int) (A : Option Addr) (c : Nat) (w : World) (S : Nat → Prop) (hc : l.length ≤ c ∧ c ≤ 9223372036854775807) (hp : ∀ k ∈ l, plaQ k = true) (hn : nodL l 0 ≤ 63) (hq : QsAt w S A l.length l) :
    Calls Tryz.prog 29 #[.agg #[.int .i64 3, .int .i64 0, .string ⟨#[]⟩, .slice A l.length c], .int .i64 i] w (RetTx26 w (shwI i ⟨3, 0, [], l⟩)) := by
  have b0 := bel_alloc (Below.refl w.heap.size w) (.cells #[.int .i64 3, .int .i64 0, .string ⟨#[]⟩, .slice A l.length c] 25)
  have X0 := Lib.hid (Blk.new w 25 #[.int .i64 3, .int .i64 0, .string ⟨#[]⟩, .slice A l.length c])
  have B0 := Lib.hid b0
  have HV : Hid (shwD ⟨3, 0, [], l⟩ = accS 3 [32] l l.length) := Lib.hid (by
    simp only [shwD, shwQ, accS]
    rw [List.take_length]
    rfl)
  have HKS := Lib.hid (hq.bel b0)
  have HI := Lib.hid (fun (k : Qy) (hm : k ∈ l) (vs : Array Value) (W : World) (S : Nat → Prop) (h : QAt W S vs k) => (show Calls Tryz.prog 29 #[.agg vs, .int .i64 3] W (RetTx26 W (shwK leafD 3 k)) from hk k hm 3 vs W S (hp k hm) (by have := nodL_mem l 0 k hm; omega) h))
  have HKL := Lib.hid (fun (k : Qy) (hm : k ∈ l) => (show (shwK leafD 3 k).length ≤ 20000 from by
    have h1 : (shwQ leafD k).length + 10 ≤ 300 * nodQ k := shown_len k (hp k hm)
    have h2 := shwK_len leafD 3 k
    have h3 := nodL_mem l 0 k hm
    omega))
  have HAL := Lib.hid (fun k => accS_len 3 [32] (by simp) l hp hn k)
  have hll : l.length ≤ 63 := by have := nodL_length l 0; omega
  have HSI : Hid (shwI i ⟨3, 0, [], l⟩ = if i = 0 then accS 3 [32] l l.length else shwK leafD i ⟨3, 0, [], l⟩) := Lib.hid (by unfold shwI; rw [HV.out])
  have HSK : Hid (shwK leafD i ⟨3, 0, [], l⟩ = if (3 : Int) = 4 ∨ ((3 : Int) = 3 ∧ i ≠ 4) then 40 :: (accS 3 [32] l l.length ++ [41]) else accS 3 [32] l l.length) := Lib.hid (by rw [← HV.out]; unfold shwK; simp only [Qy.op])
  generalize shwI i ⟨3, 0, [], l⟩ = res at *
  obtain ⟨hc1, hc2⟩ := hc
  clear hk hp hn hq b0 HV
  go_enter Tryz.func29, Tryz.ntmps29
  go_wp2_with fail
  go_loopw [5, 7] (fun v i wr => ∃ (k : Nat) (acc : List UInt8), v = .string ⟨acc.toArray⟩ ∧ i = .int .i64 (k : Int) ∧ k ≤ l.length ∧ Hid (acc = accS 3 [32] l k) ∧ Hid (Below (w.alloc (.cells #[.int .i64 3, .int .i64 0, .string ⟨#[]⟩, .slice A l.length c] 25)).heap.size (w.alloc (.cells #[.int .i64 3, .int .i64 0, .string ⟨#[]⟩, .slice A l.length c] 25)) wr) ∧ Hid (Blk wr w.heap.size 25 #[.int .i64 3, .int .i64 0, .string ⟨#[]⟩, .slice A l.length c])) (fun _ i _ => l.length - (intOf i).toNat)
  case atStart => exact ⟨0, [], rfl, rfl, by omega, Lib.hid (by simp [accS, shwL]), Lib.hid (Below.refl _ _), X0⟩
  case round =>
    obtain ⟨k, acc, rfl, rfl, hkl, HA, HBX, HX⟩ := hrel
    have HB := Lib.hid (bel_step B0.out HBX.out)
    obtain ⟨z0, z1, z2, z3, z4, z5⟩ := res_facts HX.out
    have hal : acc.length ≤ 18900 := by rw [HA.out]; exact HAL.out k
    have hz : (ByteArray.mk acc.toArray).size = acc.length := size_of acc
    by_cases hlt : k < l.length
    · have hstep : ∃ acc2 : List UInt8, (if 0 < k then acc ++ [32] else acc) = acc2 ∧ acc2.length ≤ 18904 := ⟨_, rfl, by split <;> (try rw [List.length_append]) <;> (try simp only [List.length_cons, List.length_nil]) <;> omega⟩
      obtain ⟨acc2, hacc2, hal2⟩ := hstep
      have hz2 : (ByteArray.mk acc2.toArray).size = acc2.length := size_of acc2
      have HA2 := Lib.hid hacc2
      have dlt : decide (k < l.length) = true := by simpa using hlt
      by_cases hk0 : 0 < k
      · have d0 : decide (0 < k) = true := by simpa using hk0
        have e0 : (0 : Int) < (k : Int) := by omega
        have hcc : (ByteArray.mk acc.toArray) ++ (ByteArray.mk (#[32] : Array UInt8)) = ⟨acc2.toArray⟩ := by
          rw [← hacc2, if_pos hk0, ← ba_app26]
        clear hacc2
        go_wp2_with fail
        refine wp_region_seq (by kernel_rfl) [(0, true), (1, true), (2, true), (3, true), (4, true), (5, true), (6, true), (7, true), (8, false), (9, true), (10, true)] (by kernel_rfl) rfl (by kernel_rfl) ?_
        intro w0 hb0
        obtain ⟨x, B, cx, bk, off, hg, rfl, -, hbs, hx', g1, g2, g3, g4, g5, f0, f1, f2, f3⟩ := (HKS.out.bel (bel_step HBX.out hb0)).at hlt
        have hmem := List.mem_of_getElem? hg.out
        have HX1 := Lib.hid (HX.out.below hb0 HX.out.lt)
        obtain ⟨p0, p1, p2, p3, p4, p5⟩ := res_facts HX1.out
        have F0 := later26 f0
        have F1 := later26 f1
        have F2 := later26 f2
        have F3 := later26 f3
        have P0 := later26 p0
        have P3 := later26 p3
        have HC := Lib.hid (HI.out x hmem _ w0 _ hx'.out)
        simp only [qV] at HC
        have HST : Hid (accS 3 [32] l (k + 1) = acc2 ++ shwK leafD 3 x) := Lib.hid (by rw [accS_step 3 [32] hg.out hk0, ← HA.out, ← HA2.out, if_pos hk0])
        have hkl2 := HKL.out x hmem
        have B1 := bel_step HBX.out hb0
        clear hx' f0 f1 f2 f3 p0 p1 p2 p3 p4 p5 hg hmem
        generalize shwK leafD 3 x = t at *
        have hzt : (ByteArray.mk t.toArray).size = t.length := size_of t
        have hno : ¬ 9223372036854775807 < acc2.length + t.length := by omega
        iterate 8 (refine wpSeq_take (o := ⟨_, _, _, _, _, _⟩) (v := ?_) rfl rfl ?_ ?_; rotate_left; (focus (intro W hW; go_simp; first | done | with_reducible rfl)); simp only [Act.put, List.setIfInBounds_toArray, List.set_cons_zero, List.set_cons_succ])
        clear F0 F1 F2 F3 P0 P3
        refine wpSeq_exec (o := ⟨_, _, _, _, _, _⟩) rfl rfl (fun K hK => ?_)
        go_simp
        (with_reducible refine (HC.out).mono ?_)
        rintro e w2 ⟨rfl, hb2⟩
        go_wp2_with fail
        refine hK _ _ hb2 ?_
        clear hK K
        have HB2 := Lib.hid (bel_step B1 hb2)
        have HX2 := Lib.hid (HX1.out.below hb2 HX1.out.lt)
        clear B1 hb0 hb2
        iterate 2 (refine wpSeq_take (o := ⟨_, _, _, _, _, _⟩) (v := ?_) rfl rfl ?_ ?_; rotate_left; (focus (intro W hW; go_simp; first | done | with_reducible rfl)); simp only [Act.put, List.setIfInBounds_toArray, List.set_cons_zero, List.set_cons_succ])
        refine wpSeq_nil ?_
        go_wp2_with fail
        go_roundw
        case rel => exact ⟨k + 1, acc2 ++ t, by rw [← ba_app26], by go_num, by omega, Lib.hid HST.out.symm, HB2, HX2⟩
        case measure => simp [intOf]; omega
      · have d0 : decide (0 < k) = false := by simpa using hk0
        have e0 : ¬ (0 : Int) < (k : Int) := by omega
        have hcc : acc = acc2 := by rw [← hacc2, if_neg hk0]
        subst hcc
        clear hacc2
        go_wp2_with fail
        refine wp_region_seq (by kernel_rfl) [(0, true), (1, true), (2, true), (3, true), (4, true), (5, true), (6, true), (7, true), (8, false), (9, true), (10, true)] (by kernel_rfl) rfl (by kernel_rfl) ?_
        intro w0 hb0
        obtain ⟨x, B, cx, bk, off, hg, rfl, -, hbs, hx', g1, g2, g3, g4, g5, f0, f1, f2, f3⟩ := (HKS.out.bel (bel_step HBX.out hb0)).at hlt
        have hmem := List.mem_of_getElem? hg.out
        have HX1 := Lib.hid (HX.out.below hb0 HX.out.lt)
        obtain ⟨p0, p1, p2, p3, p4, p5⟩ := res_facts HX1.out
        have F0 := later26 f0
        have F1 := later26 f1
        have F2 := later26 f2
        have F3 := later26 f3
        have P0 := later26 p0
        have P3 := later26 p3
        have HC := Lib.hid (HI.out x hmem _ w0 _ hx'.out)
        simp only [qV] at HC
        have HST : Hid (accS 3 [32] l (k + 1) = acc ++ shwK leafD 3 x) := Lib.hid (by obtain rfl : k = 0 := (by omega); rw [(accS_first 3 [32] hg.out).1, HA.out, (accS_first 3 [32] hg.out).2]; rfl)
        have hkl2 := HKL.out x hmem
        have B1 := bel_step HBX.out hb0
        clear hx' f0 f1 f2 f3 p0 p1 p2 p3 p4 p5 hg hmem
        generalize shwK leafD 3 x = t at *
        have hzt : (ByteArray.mk t.toArray).size = t.length := size_of t
        have hno : ¬ 9223372036854775807 < acc.length + t.length := by omega
        iterate 8 (refine wpSeq_take (o := ⟨_, _, _, _, _, _⟩) (v := ?_) rfl rfl ?_ ?_; rotate_left; (focus (intro W hW; go_simp; first | done | with_reducible rfl)); simp only [Act.put, List.setIfInBounds_toArray, List.set_cons_zero, List.set_cons_succ])
        clear F0 F1 F2 F3 P0 P3
        refine wpSeq_exec (o := ⟨_, _, _, _, _, _⟩) rfl rfl (fun K hK => ?_)
        go_simp
        (with_reducible refine (HC.out).mono ?_)
        rintro e w2 ⟨rfl, hb2⟩
        go_wp2_with fail
        refine hK _ _ hb2 ?_
        clear hK K
        have HB2 := Lib.hid (bel_step B1 hb2)
        have HX2 := Lib.hid (HX1.out.below hb2 HX1.out.lt)
        clear B1 hb0 hb2
        iterate 2 (refine wpSeq_take (o := ⟨_, _, _, _, _, _⟩) (v := ?_) rfl rfl ?_ ?_; rotate_left; (focus (intro W hW; go_simp; first | done | with_reducible rfl)); simp only [Act.put, List.setIfInBounds_toArray, List.set_cons_zero, List.set_cons_succ])
        refine wpSeq_nil ?_
        go_wp2_with fail
        go_roundw
        case rel => exact ⟨k + 1, acc ++ t, by rw [← ba_app26], by go_num, by omega, Lib.hid HST.out.symm, HB2, HX2⟩
        case measure => simp [intOf]; omega
    · obtain rfl : k = l.length := by omega
      have HAS := Lib.hid HA.out.symm
      by_cases hi : i = 0
      · have HR : Hid (res = acc) := Lib.hid (by rw [HSI.out, if_pos hi, HAS.out])
        subst hi
        go_wp2_with fail
        go_ret
        exact ⟨by rw [HR.out]; rfl, HB.out⟩
      · have d1 : (i != 0) = true := by simpa using hi
        by_cases hi4 : i = 4
        · have HR : Hid (res = acc) := Lib.hid (by rw [HSI.out, if_neg hi, HSK.out, if_neg (by rintro (h | ⟨_, h⟩); exact absurd h (by decide); exact h hi4), HAS.out])
          subst hi4
          go_wp2_with fail
          go_ret
          exact ⟨by rw [HR.out]; rfl, HB.out⟩
        · have d4 : (i != 4) = true := by simpa using hi4
          have HR : Hid (res = 40 :: (acc ++ [41])) := Lib.hid (by rw [HSI.out, if_neg hi, HSK.out, if_pos (by simp [hi4]), HAS.out])
          go_wp2_with fail
          go_ret
          exact ⟨by rw [HR.out, ← paren_app]; rfl, HB.out⟩
set_option maxHeartbeats 8000000 in
theorem rshow26_or (l : List Qy) (hk : ∀ k ∈ l, rshowP k) (i : Int) (A : Option Addr) (c : Nat) (w : World) (S : Nat → Prop) (hc : l.length ≤ c ∧ c ≤ 9223372036854775807) (hp : ∀ k ∈ l, plaQ k = true) (hn : nodL l 0 ≤ 63) (hq : QsAt w S A l.length l) :
    Calls Tryz.prog 29 #[.agg #[.int .i64 4, .int .i64 0, .string ⟨#[]⟩, .slice A l.length c], .int .i64 i] w (RetTx26 w (shwI i ⟨4, 0, [], l⟩)) := by
  have b0 := bel_alloc (Below.refl w.heap.size w) (.cells #[.int .i64 4, .int .i64 0, .string ⟨#[]⟩, .slice A l.length c] 25)
  have X0 := Lib.hid (Blk.new w 25 #[.int .i64 4, .int .i64 0, .string ⟨#[]⟩, .slice A l.length c])
  have B0 := Lib.hid b0
  have HV : Hid (shwD ⟨4, 0, [], l⟩ = accS 4 [32, 111, 114, 32] l l.length) := Lib.hid (by
    simp only [shwD, shwQ, accS]
    rw [List.take_length]
    rfl)
  have HKS := Lib.hid (hq.bel b0)
  have HI := Lib.hid (fun (k : Qy) (hm : k ∈ l) (vs : Array Value) (W : World) (S : Nat → Prop) (h : QAt W S vs k) => (show Calls Tryz.prog 29 #[.agg vs, .int .i64 4] W (RetTx26 W (shwK leafD 4 k)) from hk k hm 4 vs W S (hp k hm) (by have := nodL_mem l 0 k hm; omega) h))
  have HKL := Lib.hid (fun (k : Qy) (hm : k ∈ l) => (show (shwK leafD 4 k).length ≤ 20000 from by
    have h1 : (shwQ leafD k).length + 10 ≤ 300 * nodQ k := shown_len k (hp k hm)
    have h2 := shwK_len leafD 4 k
    have h3 := nodL_mem l 0 k hm
    omega))
  have HAL := Lib.hid (fun k => accS_len 4 [32, 111, 114, 32] (by simp) l hp hn k)
  have hll : l.length ≤ 63 := by have := nodL_length l 0; omega
  have HSI : Hid (shwI i ⟨4, 0, [], l⟩ = if i = 0 then accS 4 [32, 111, 114, 32] l l.length else shwK leafD i ⟨4, 0, [], l⟩) := Lib.hid (by unfold shwI; rw [HV.out])
  have HSK : Hid (shwK leafD i ⟨4, 0, [], l⟩ = if (4 : Int) = 4 ∨ ((4 : Int) = 3 ∧ i ≠ 4) then 40 :: (accS 4 [32, 111, 114, 32] l l.length ++ [41]) else accS 4 [32, 111, 114, 32] l l.length) := Lib.hid (by rw [← HV.out]; unfold shwK; simp only [Qy.op])
  generalize shwI i ⟨4, 0, [], l⟩ = res at *
  obtain ⟨hc1, hc2⟩ := hc
  clear hk hp hn hq b0 HV
  go_enter Tryz.func29, Tryz.ntmps29
  go_wp2_with fail
  go_loopw [5, 7] (fun v i wr => ∃ (k : Nat) (acc : List UInt8), v = .string ⟨acc.toArray⟩ ∧ i = .int .i64 (k : Int) ∧ k ≤ l.length ∧ Hid (acc = accS 4 [32, 111, 114, 32] l k) ∧ Hid (Below (w.alloc (.cells #[.int .i64 4, .int .i64 0, .string ⟨#[]⟩, .slice A l.length c] 25)).heap.size (w.alloc (.cells #[.int .i64 4, .int .i64 0, .string ⟨#[]⟩, .slice A l.length c] 25)) wr) ∧ Hid (Blk wr w.heap.size 25 #[.int .i64 4, .int .i64 0, .string ⟨#[]⟩, .slice A l.length c])) (fun _ i _ => l.length - (intOf i).toNat)
  case atStart => exact ⟨0, [], rfl, rfl, by omega, Lib.hid (by simp [accS, shwL]), Lib.hid (Below.refl _ _), X0⟩
  case round =>
    obtain ⟨k, acc, rfl, rfl, hkl, HA, HBX, HX⟩ := hrel
    have HB := Lib.hid (bel_step B0.out HBX.out)
    obtain ⟨z0, z1, z2, z3, z4, z5⟩ := res_facts HX.out
    have hal : acc.length ≤ 18900 := by rw [HA.out]; exact HAL.out k
    have hz : (ByteArray.mk acc.toArray).size = acc.length := size_of acc
    by_cases hlt : k < l.length
    · have hstep : ∃ acc2 : List UInt8, (if 0 < k then acc ++ [32, 111, 114, 32] else acc) = acc2 ∧ acc2.length ≤ 18904 := ⟨_, rfl, by split <;> (try rw [List.length_append]) <;> (try simp only [List.length_cons, List.length_nil]) <;> omega⟩
      obtain ⟨acc2, hacc2, hal2⟩ := hstep
      have hz2 : (ByteArray.mk acc2.toArray).size = acc2.length := size_of acc2
      have HA2 := Lib.hid hacc2
      have dlt : decide (k < l.length) = true := by simpa using hlt
      by_cases hk0 : 0 < k
      · have d0 : decide (0 < k) = true := by simpa using hk0
        have e0 : (0 : Int) < (k : Int) := by omega
        have hcc : (ByteArray.mk acc.toArray) ++ (ByteArray.mk (#[32, 111, 114, 32] : Array UInt8)) = ⟨acc2.toArray⟩ := by
          rw [← hacc2, if_pos hk0, ← ba_app26]
        clear hacc2
        go_wp2_with fail
        refine wp_region_seq (by kernel_rfl) [(0, true), (1, true), (2, true), (3, true), (4, true), (5, true), (6, true), (7, true), (8, false), (9, true), (10, true)] (by kernel_rfl) rfl (by kernel_rfl) ?_
        intro w0 hb0
        obtain ⟨x, B, cx, bk, off, hg, rfl, -, hbs, hx', g1, g2, g3, g4, g5, f0, f1, f2, f3⟩ := (HKS.out.bel (bel_step HBX.out hb0)).at hlt
        have hmem := List.mem_of_getElem? hg.out
        have HX1 := Lib.hid (HX.out.below hb0 HX.out.lt)
        obtain ⟨p0, p1, p2, p3, p4, p5⟩ := res_facts HX1.out
        have F0 := later26 f0
        have F1 := later26 f1
        have F2 := later26 f2
        have F3 := later26 f3
        have P0 := later26 p0
        have P3 := later26 p3
        have HC := Lib.hid (HI.out x hmem _ w0 _ hx'.out)
        simp only [qV] at HC
        have HST : Hid (accS 4 [32, 111, 114, 32] l (k + 1) = acc2 ++ shwK leafD 4 x) := Lib.hid (by rw [accS_step 4 [32, 111, 114, 32] hg.out hk0, ← HA.out, ← HA2.out, if_pos hk0])
        have hkl2 := HKL.out x hmem
        have B1 := bel_step HBX.out hb0
        clear hx' f0 f1 f2 f3 p0 p1 p2 p3 p4 p5 hg hmem
        generalize shwK leafD 4 x = t at *
        have hzt : (ByteArray.mk t.toArray).size = t.length := size_of t
        have hno : ¬ 9223372036854775807 < acc2.length + t.length := by omega
        iterate 8 (refine wpSeq_take (o := ⟨_, _, _, _, _, _⟩) (v := ?_) rfl rfl ?_ ?_; rotate_left; (focus (intro W hW; go_simp; first | done | with_reducible rfl)); simp only [Act.put, List.setIfInBounds_toArray, List.set_cons_zero, List.set_cons_succ])
        clear F0 F1 F2 F3 P0 P3
        refine wpSeq_exec (o := ⟨_, _, _, _, _, _⟩) rfl rfl (fun K hK => ?_)
        go_simp
        (with_reducible refine (HC.out).mono ?_)
        rintro e w2 ⟨rfl, hb2⟩
        go_wp2_with fail
        refine hK _ _ hb2 ?_
        clear hK K
        have HB2 := Lib.hid (bel_step B1 hb2)
        have HX2 := Lib.hid (HX1.out.below hb2 HX1.out.lt)
        clear B1 hb0 hb2
        iterate 2 (refine wpSeq_take (o := ⟨_, _, _, _, _, _⟩) (v := ?_) rfl rfl ?_ ?_; rotate_left; (focus (intro W hW; go_simp; first | done | with_reducible rfl)); simp only [Act.put, List.setIfInBounds_toArray, List.set_cons_zero, List.set_cons_succ])
        refine wpSeq_nil ?_
        go_wp2_with fail
        go_roundw
        case rel => exact ⟨k + 1, acc2 ++ t, by rw [← ba_app26], by go_num, by omega, Lib.hid HST.out.symm, HB2, HX2⟩
        case measure => simp [intOf]; omega
      · have d0 : decide (0 < k) = false := by simpa using hk0
        have e0 : ¬ (0 : Int) < (k : Int) := by omega
        have hcc : acc = acc2 := by rw [← hacc2, if_neg hk0]
        subst hcc
        clear hacc2
        go_wp2_with fail
        refine wp_region_seq (by kernel_rfl) [(0, true), (1, true), (2, true), (3, true), (4, true), (5, true), (6, true), (7, true), (8, false), (9, true), (10, true)] (by kernel_rfl) rfl (by kernel_rfl) ?_
        intro w0 hb0
        obtain ⟨x, B, cx, bk, off, hg, rfl, -, hbs, hx', g1, g2, g3, g4, g5, f0, f1, f2, f3⟩ := (HKS.out.bel (bel_step HBX.out hb0)).at hlt
        have hmem := List.mem_of_getElem? hg.out
        have HX1 := Lib.hid (HX.out.below hb0 HX.out.lt)
        obtain ⟨p0, p1, p2, p3, p4, p5⟩ := res_facts HX1.out
        have F0 := later26 f0
        have F1 := later26 f1
        have F2 := later26 f2
        have F3 := later26 f3
        have P0 := later26 p0
        have P3 := later26 p3
        have HC := Lib.hid (HI.out x hmem _ w0 _ hx'.out)
        simp only [qV] at HC
        have HST : Hid (accS 4 [32, 111, 114, 32] l (k + 1) = acc ++ shwK leafD 4 x) := Lib.hid (by obtain rfl : k = 0 := (by omega); rw [(accS_first 4 [32, 111, 114, 32] hg.out).1, HA.out, (accS_first 4 [32, 111, 114, 32] hg.out).2]; rfl)
        have hkl2 := HKL.out x hmem
        have B1 := bel_step HBX.out hb0
        clear hx' f0 f1 f2 f3 p0 p1 p2 p3 p4 p5 hg hmem
        generalize shwK leafD 4 x = t at *
        have hzt : (ByteArray.mk t.toArray).size = t.length := size_of t
        have hno : ¬ 9223372036854775807 < acc.length + t.length := by omega
        iterate 8 (refine wpSeq_take (o := ⟨_, _, _, _, _, _⟩) (v := ?_) rfl rfl ?_ ?_; rotate_left; (focus (intro W hW; go_simp; first | done | with_reducible rfl)); simp only [Act.put, List.setIfInBounds_toArray, List.set_cons_zero, List.set_cons_succ])
        clear F0 F1 F2 F3 P0 P3
        refine wpSeq_exec (o := ⟨_, _, _, _, _, _⟩) rfl rfl (fun K hK => ?_)
        go_simp
        (with_reducible refine (HC.out).mono ?_)
        rintro e w2 ⟨rfl, hb2⟩
        go_wp2_with fail
        refine hK _ _ hb2 ?_
        clear hK K
        have HB2 := Lib.hid (bel_step B1 hb2)
        have HX2 := Lib.hid (HX1.out.below hb2 HX1.out.lt)
        clear B1 hb0 hb2
        iterate 2 (refine wpSeq_take (o := ⟨_, _, _, _, _, _⟩) (v := ?_) rfl rfl ?_ ?_; rotate_left; (focus (intro W hW; go_simp; first | done | with_reducible rfl)); simp only [Act.put, List.setIfInBounds_toArray, List.set_cons_zero, List.set_cons_succ])
        refine wpSeq_nil ?_
        go_wp2_with fail
        go_roundw
        case rel => exact ⟨k + 1, acc ++ t, by rw [← ba_app26], by go_num, by omega, Lib.hid HST.out.symm, HB2, HX2⟩
        case measure => simp [intOf]; omega
    · obtain rfl : k = l.length := by omega
      have HAS := Lib.hid HA.out.symm
      by_cases hi : i = 0
      · have HR : Hid (res = acc) := Lib.hid (by rw [HSI.out, if_pos hi, HAS.out])
        subst hi
        go_wp2_with fail
        go_ret
        exact ⟨by rw [HR.out]; rfl, HB.out⟩
      · have d1 : (i != 0) = true := by simpa using hi
        have HR : Hid (res = 40 :: (acc ++ [41])) := Lib.hid (by rw [HSI.out, if_neg hi, HSK.out, if_pos (by simp), HAS.out])
        go_wp2_with fail
        go_ret
        exact ⟨by rw [HR.out, ← paren_app]; rfl, HB.out⟩
theorem rshow26_any (q : Qy) : rshowP q := by
  refine Qy.ind (p := rshowP) ?_ q
  intro o n s l ih i vs w S hp hnd hq
  obtain ⟨h1, h2⟩ := pla_parts hp
  obtain ⟨k1, k2, k3⟩ := one_kids h1
  have hm := plaL_mem h2
  obtain ⟨A, c, rfl, ho, hn, hs, hc1, hc2, hk⟩ := hq.open_
  simp only [Qy.op, Qy.n, Qy.s, Qy.kids, qV] at *
  have hnl : nodL l 0 ≤ 63 := by
    simp only [nodQ] at hnd
    rw [nodL_add] at hnd
    omega
  by_cases h5 : o = 5
  · subst h5
    obtain ⟨e1, rfl, rfl⟩ := k1 rfl
    match l, e1, ih, hm, hk, hnl with
    | [k], _, ih, hm, hk, hnl =>
      have := rshow26_not k (ih k (by simp)) i A c w S ⟨hc1, hc2⟩ (hm k (by simp)) (by have := nodL_mem [k] 0 k (by simp); omega) hk
      rw [show shwI i ⟨5, 0, [], [k]⟩ = shwD ⟨5, 0, [], [k]⟩ by unfold shwI shwK; simp [Qy.op]]
      exact this
  by_cases h3 : o = 3
  · subst h3
    obtain ⟨e1, rfl, rfl⟩ := k2 (.inl rfl)
    exact rshow26_and l ih i A c w S ⟨hc1, hc2⟩ hm hnl hk
  by_cases h4 : o = 4
  · subst h4
    obtain ⟨e1, rfl, rfl⟩ := k2 (.inr rfl)
    exact rshow26_or l ih i A c w S ⟨hc1, hc2⟩ hm hnl hk
  have hk0 := k3 h3 h4 h5
  rw [hk0] at h1
  have := rleaf26_any i o n s A l.length c w h3 h4 h5 h1
  rw [show shwI i ⟨o, n, s, l⟩ = leafD o n s by unfold shwI shwK; simp [Qy.op, h3, h4, h5, shwD, shwQ]]
  exact this
theorem rShow26_any (q : Qy) (vs : Array Value) (w : World) (S : Nat → Prop) (hp : plaQ q = true) (hn : nodQ q ≤ 64) (hq : QAt w S vs q) : Calls Tryz.prog 15 #[.agg vs] w (RetTx26 w (shwD q)) := by
  obtain ⟨A, c, rfl, -, -, -, -, -, -⟩ := hq.open_
  have b0 := bel_alloc (Below.refl w.heap.size w) (.cells (qV q.op q.n q.s A q.kids.length c) 25)
  have HC := Lib.hid (rshow26_any q 0 _ _ S hp hn (hq.bel b0))
  rw [show shwI 0 q = shwD q by unfold shwI; rw [if_pos rfl]] at HC
  have B0 := Lib.hid b0
  simp only [qV] at *
  generalize shwD q = t at *
  clear hq hp hn b0
  go_enter Tryz.func15, Tryz.ntmps15
  go_wp2_with fail
  (with_reducible refine (HC.out).mono ?_)
  rintro _ w1 ⟨rfl, hb1⟩
  go_wp2_with fail
  go_ret
  exact ⟨rfl, bel_step B0.out hb1⟩
end Go.Proofs.YtjjlmkleidbmhaaGreatDoor
end
section
namespace Go.Proofs.YtjjlmkleidbmhaaGreatDoor
open Go.RowKit Go.Nst
set_option maxRecDepth 100000
set_option linter.unusedVariables false
set_option linter.unusedSimpArgs false

def wantQ : Qy := ⟨3, 0, [], [⟨9, 0, [], []⟩, ⟨4, 0, [], [⟨8, 0, [103, 111], []⟩, ⟨10, 0, [], []⟩]⟩]⟩
theorem lv26_1 : parD [117, 110, 114, 101, 97, 100, 32, 40, 116, 97, 103, 58, 71, 111, 32, 111, 114, 32, 115, 116, 97, 114, 114, 101, 100, 41] = (wantQ, 26, 0) := by kernel_rfl
theorem lv26_2 : parD [97, 32, 111, 114] = (.zero, 4, 250) := by kernel_rfl
theorem lv26_3 : parD [97, 32, 41, 32, 98] = (.zero, 2, 250) := by kernel_rfl
theorem lv26_4 : parD [110, 111, 116, 32, 110, 111, 116, 32, 40, 102, 101, 101, 100, 58, 48, 49, 41] = (.zero, 9, 250) := by kernel_rfl
theorem lv26_5 : shwD wantQ = [117, 110, 114, 101, 97, 100, 32, 40, 116, 97, 103, 58, 103, 111, 32, 111, 114, 32, 115, 116, 97, 114, 114, 101, 100, 41] := by kernel_rfl
theorem lv26_6 : okQ wantQ = true := by decide +kernel
theorem lv26_7 : okQ .zero = false := by decide +kernel
theorem lv26_8 : samQ wantQ wantQ 1 = true := by decide +kernel
end Go.Proofs.YtjjlmkleidbmhaaGreatDoor
end
section
namespace Go.Proofs.YtjjlmkleidbmhaaGreatDoor
open Go.ChangeShapes Go.WideShapes Go.ChangeAt Go.Deep
open Go.RowKit Go.Nst
set_option maxRecDepth 100000
set_option linter.unusedVariables false
set_option linter.unusedSimpArgs false

/-- the document's parser: its block, the parts, where it is -/
structure PsD (w : World) (g : Nat) (S : Nat → Prop) (l : List Pt) (i : Nat) (e bad : Int) (A : Option Addr) (n c : Nat) : Prop where
  blk : Blk w g 50 #[.slice A n c, .int .i64 i, .int .i64 e, .int .i64 bad]
  row : PtA w S A n l
  cap : n ≤ c ∧ c ≤ 9223372036854775807
  idx : i ≤ n ∧ n ≤ 600
  off : ¬ S g
  en : 0 ≤ e ∧ e ≤ 512
theorem psd_facts {w : World} {g : Nat} {S : Nat → Prop} {l : List Pt} {i : Nat} {e bad : Int} {A : Option Addr} {n c : Nat} (h : PsD w g S l i e bad A n c) : w.cell? ⟨g, 0, none⟩ = some (.slice A n c) ∧ w.cell? ⟨g, 1, none⟩ = some (.int .i64 i) ∧ w.cell? ⟨g, 2, none⟩ = some (.int .i64 e) ∧ w.cell? ⟨g, 3, none⟩ = some (.int .i64 bad) ∧ g < w.heap.size ∧ ∀ i, w.frozen? ⟨g, i, none⟩ = false := ⟨h.blk.cell 0, h.blk.cell 1, h.blk.cell 2, h.blk.cell 3, h.blk.lt, h.blk.frozen⟩
theorem PsD.grown {w w' : World} {g : Nat} {S : Nat → Prop} {l : List Pt} {i : Nat} {e bad : Int} {A : Option Addr} {n c : Nat} (h : PsD w g S l i e bad A n c) (hb : Below w.heap.size w w') : PsD w' g S l i e bad A n c :=
  ⟨h.blk.below hb h.blk.lt, h.row.bel ptP hb, h.cap, h.idx, h.off, h.en⟩
theorem PsD.wideS {w : World} {g : Nat} {S S' : Nat → Prop} {l : List Pt} {i : Nat} {e bad : Int} {A : Option Addr} {n c : Nat} (h : PsD w g S l i e bad A n c) (hS : ∀ b, S b → b < w.heap.size → S' b) (hg : ¬ S' g) : PsD w g S' l i e bad A n c :=
  ⟨h.blk, h.row.wide ptP hS, h.cap, h.idx, hg, h.en⟩
theorem PsD.belB {w w' : World} {g B : Nat} {S : Nat → Prop} {l : List Pt} {i : Nat} {e bad : Int} {A : Option Addr} {n c : Nat} (h : PsD w g S l i e bad A n c) (hb : Below B w w') (hg : g < B) (hS : ∀ b, S b → b < B) : PsD w' g S l i e bad A n c :=
  ⟨h.blk.below hb hg, h.row.keep ptP (fun b hs _ => hb.block b (hS b hs)) hb.size (fun _ h _ => h), h.cap, h.idx, h.off, h.en⟩
theorem PsD.keepR {w w' : World} {g R : Nat} {S : Nat → Prop} {l : List Pt} {i : Nat} {e bad : Int} {A : Option Addr} {n c : Nat} (h : PsD w g S l i e bad A n c) (hb : w.grownBy w' (some R)) (hg : g < R) (hS : ¬ S R) : PsD w' g S l i e bad A n c :=
  ⟨h.blk.grown hb (fun e => by injection e with e; omega), h.row.grown ptP hb (fun k hk => by injection hk with hk; exact hk ▸ hS), h.cap, h.idx, h.off, h.en⟩
/-- the place moves on -/
theorem PsD.setI {w : World} {g : Nat} {S : Nat → Prop} {l : List Pt} {i : Nat} {e bad : Int} {A : Option Addr} {n c : Nat} (h : PsD w g S l i e bad A n c) (j : Nat) (hj : j ≤ n) : PsD (w.setCell ⟨g, 1, none⟩ (.int .i64 (j : Int))) g S l j e bad A n c :=
  ⟨by simpa using h.blk.set_ 1 (.int .i64 (j : Int)), h.row.grown ptP (only_setCell (p := ⟨g, 1, none⟩) (World.grownBy.refl w (some g)) (.inl rfl) _) (fun k hk => by injection hk with hk; subst hk; exact h.off), h.cap, ⟨hj, h.idx.2⟩, h.off, h.en⟩
theorem PsD.setB {w : World} {g : Nat} {S : Nat → Prop} {l : List Pt} {i : Nat} {e bad : Int} {A : Option Addr} {n c : Nat} (h : PsD w g S l i e bad A n c) (b : Int) : PsD (w.setCell ⟨g, 3, none⟩ (.int .i64 b)) g S l i e b A n c :=
  ⟨by simpa using h.blk.set_ 3 (.int .i64 b), h.row.grown ptP (only_setCell (p := ⟨g, 3, none⟩) (World.grownBy.refl w (some g)) (.inl rfl) _) (fun k hk => by injection hk with hk; subst hk; exact h.off), h.cap, h.idx, h.off, h.en⟩
theorem nxt_get {l : List Pt} {i : Nat} {p : Pt} (h : l[i]? = some p) : nxt (l.drop i) = p.s ∧ l.drop i = p :: l.drop (i + 1) := by
  obtain ⟨hl, hv⟩ := List.getElem?_eq_some_iff.1 h
  rw [List.drop_eq_getElem_cons hl, hv]
  exact ⟨rfl, rfl⟩
theorem QAt.zero26 {w : World} {S : Nat → Prop} : QAt w S #[.int .i64 0, .int .i64 0, .string ⟨#[]⟩, .slice none 0 0] .zero := QAt.make (s := []) (i64P_lit (by omega)) (i64P_lit (by omega)) (by simp) ⟨Nat.le_refl _, by omega⟩ QsAt.nil
theorem drewN_bel26 {B : Nat} {w w' : World} (h : Below B w w') (n : Nat) : Below B w (w'.drewN n) := ⟨h.os, h.tape, h.output, h.size, h.block⟩
theorem peek26_any (w : World) (g : Nat) (S : Nat → Prop) (l : List Pt) (i : Nat) (e bad : Int) (A : Option Addr) (n c : Nat) (h : PsD w g S l i e bad A n c) :
    Calls Tryz.prog 38 #[.pointer (some ⟨g, 0, none⟩)] w fun e' w' => e' = .returned (.string ⟨(nxt (l.drop i)).toArray⟩) ∧ Below w.heap.size w w' := by
  have hl := h.row.len
  have hc1 := h.cap.1
  have hc2 := h.cap.2
  have hi1 := h.idx.1
  have hi2 := h.idx.2
  obtain ⟨q0, q1, -, -, q4, q5⟩ := psd_facts h
  by_cases hin : i < n
  · obtain ⟨p, b, off, HG, rfl, -, hb, -, f0, f1⟩ := pt_at h.row hin
    have HN := Lib.hid (nxt_get HG.out).1
    rw [HN.out]
    clear h HG hl HN
    have e1 : (i : Int) < (n : Int) := by omega
    have e2 : decide (i < n) = true := by simpa using hin
    go_enter Tryz.func38, Tryz.ntmps38
    go_wp2_with fail
    go_quiet (fail)
    go_wp2_with fail
    go_quiet (fail)
    go_wp2_with fail
    go_ret
    exact ⟨rfl, drewN_bel26 (drewN_bel26 (Below.refl _ _) _) _⟩
  · obtain rfl : i = n := by omega
    have HN : Hid (nxt (l.drop i) = []) := Lib.hid (by rw [List.drop_of_length_le (by omega)]; rfl)
    rw [HN.out]
    clear h hl HN
    have e2 : decide (i < i) = false := by simp
    go_enter Tryz.func38, Tryz.ntmps38
    go_wp2_with fail
    go_quiet (fail)
    go_wp2_with fail
    go_ret
    exact ⟨rfl, drewN_bel26 (Below.refl _ _) _⟩
set_option maxHeartbeats 2000000 in
theorem rfail26_any (w : World) (g : Nat) (S : Nat → Prop) (l : List Pt) (i : Nat) (e : Int) (A : Option Addr) (n c : Nat) (h : PsD w g S l i e (-1) A n c) :
    Calls Tryz.prog 22 #[.pointer (some ⟨g, 0, none⟩)] w fun e' w' => e' = .returned (.agg #[.int .i64 0, .int .i64 0, .string ⟨#[]⟩, .slice none 0 0]) ∧ PsD w' g S l i e (posD e (l.drop i)) A n c ∧ w.grownBy w' (some g) ∧ 0 ≤ posD e (l.drop i) := by
  have hl := h.row.len
  have hc1 := h.cap.1
  have hc2 := h.cap.2
  have hi1 := h.idx.1
  have hi2 := h.idx.2
  have hs1 : (w.setCell ⟨g, 3, none⟩ (.int .i64 e)).heap.size = w.heap.size := by simp [World.setCell]
  have g1 := only_setCell (p := ⟨g, 3, none⟩) (World.grownBy.refl w (some g)) (.inl rfl) (.int .i64 e)
  have b0 := bel_alloc (Below.refl (w.setCell ⟨g, 3, none⟩ (.int .i64 e)).heap.size (w.setCell ⟨g, 3, none⟩ (.int .i64 e))) (.cells #[.int .i64 0, .int .i64 0, .string ⟨#[]⟩, .slice none 0 0] 25)
  have h1 := ((h.wideS (S' := lowS S w) (fun b hb hlt => ⟨hb, hlt⟩) (fun hh => h.off hh.1)).setB e).grown b0
  have HOF := Lib.hid h.off
  obtain ⟨r0, r1, r2, r3, r4, r5⟩ := psd_facts h
  obtain ⟨q0, q1, q2, q3, q4, q5⟩ := psd_facts h1
  have HH := Lib.hid h1
  have X0 := Blk.new (w.setCell ⟨g, 3, none⟩ (.int .i64 e)) 25 #[.int .i64 0, .int .i64 0, .string ⟨#[]⟩, .slice none 0 0]
  rw [hs1] at X0
  have X0 := Lib.hid X0
  have G0 := Lib.hid (grown_bel g1 b0 (by omega))
  have he := h.en
  have hgl := h.blk.lt
  clear b0 g1
  by_cases hin : i < n
  · obtain ⟨p, b, off, HG, rfl, -, hb, hpp, f0, f1⟩ := pt_at h1.row hin
    have HN : Hid (posD e (l.drop i) = p.p) := Lib.hid (by rw [(nxt_get HG.out).2]; rfl)
    rw [HN.out]
    have hpp' := hpp.2
    clear h h1 HG hl HN
    have e1 : (i : Int) < (n : Int) := by omega
    have e2 : decide (i < n) = true := by simpa using hin
    go_enter Tryz.func22, Tryz.ntmps22
    go_wp2_with fail
    go_quiet (fail)
    go_wp2_with fail
    go_region
    go_wp2_with fail
    have bd := drewN_bel26 (Below.refl ((w.setCell ⟨g, 3, none⟩ (.int .i64 e)).alloc (.cells #[.int .i64 0, .int .i64 0, .string ⟨#[]⟩, .slice none 0 0] 25)).heap.size ((w.setCell ⟨g, 3, none⟩ (.int .i64 e)).alloc (.cells #[.int .i64 0, .int .i64 0, .string ⟨#[]⟩, .slice none 0 0] 25))) (nq + 1)
    have hh2 := HH.out.grown bd
    have hx2 := X0.out.below bd X0.out.lt
    have gg2 := grown_bel G0.out bd (by simp)
    have hh3 := hh2.setB p.p
    have hx3 := hx2.grown (only_setCell (p := ⟨g, 3, none⟩) (World.grownBy.refl _ (some g)) (.inl rfl) (.int .i64 p.p)) (by simp; omega)
    have gg3 := only_setCell (p := ⟨g, 3, none⟩) gg2 (.inl rfl) (.int .i64 p.p)
    have y := set4 hx3 (.int .i64 0) (.int .i64 0) (.string ⟨#[]⟩) (.slice none 0 0)
    have y0 := y.cell 0
    have y1 := y.cell 1
    have y2 := y.cell 2
    have y3 := y.cell 3
    simp at y0 y1 y2 y3
    exact bodyPost_ret (v := .agg #[.int .i64 0, .int .i64 0, .string ⟨#[]⟩, .slice none 0 0]) (by simp [results, Tryz.results22, go_sem, y0, y1, y2, y3]) rfl
      ⟨rfl, (hh3.keepR (grown4 _ w.heap.size _ _ _ _) (by omega) (fun h => Nat.lt_irrefl _ h.2)).wideS (fun b hb _ => hb.1) HOF.out, grown_set4 gg3 (.inr (Nat.le_refl _)) _ _ _ _, hpp'.1⟩
  · obtain rfl : i = n := by omega
    have HN : Hid (posD e (l.drop i) = e) := Lib.hid (by rw [List.drop_of_length_le (by omega)]; rfl)
    rw [HN.out]
    clear h h1 hl HN
    have e2 : decide (i < i) = false := by simp
    obtain ⟨z0, z1, z2, z3, z4, z5⟩ := res_facts X0.out
    go_enter Tryz.func22, Tryz.ntmps22
    go_wp2_with fail
    go_quiet (fail)
    go_wp2_with fail
    have bd := drewN_bel26 (Below.refl ((w.setCell ⟨g, 3, none⟩ (.int .i64 e)).alloc (.cells #[.int .i64 0, .int .i64 0, .string ⟨#[]⟩, .slice none 0 0] 25)).heap.size ((w.setCell ⟨g, 3, none⟩ (.int .i64 e)).alloc (.cells #[.int .i64 0, .int .i64 0, .string ⟨#[]⟩, .slice none 0 0] 25))) nq
    have hh2 := HH.out.grown bd
    have hx2 := X0.out.below bd X0.out.lt
    have gg2 := grown_bel G0.out bd (by simp)
    have hh3 := hh2
    have hx3 := hx2
    have gg3 := gg2
    have y := set4 hx3 (.int .i64 0) (.int .i64 0) (.string ⟨#[]⟩) (.slice none 0 0)
    have y0 := y.cell 0
    have y1 := y.cell 1
    have y2 := y.cell 2
    have y3 := y.cell 3
    simp at y0 y1 y2 y3
    exact bodyPost_ret (v := .agg #[.int .i64 0, .int .i64 0, .string ⟨#[]⟩, .slice none 0 0]) (by simp [results, Tryz.results22, go_sem, y0, y1, y2, y3]) rfl
      ⟨rfl, (hh3.keepR (grown4 _ w.heap.size _ _ _ _) (by omega) (fun h => Nat.lt_irrefl _ h.2)).wideS (fun b hb _ => hb.1) HOF.out, grown_set4 gg3 (.inr (Nat.le_refl _)) _ _ _ _, he.1⟩
end Go.Proofs.YtjjlmkleidbmhaaGreatDoor
end
