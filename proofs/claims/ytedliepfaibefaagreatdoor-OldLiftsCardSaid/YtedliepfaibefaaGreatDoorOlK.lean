/-
  of, Second, Third.
-/
import Derived.Test.YtedliepfaibefaaGreatDoorOlJ
import Derived.Test.YtedliepfaibefaaGreatDoorOlQ
namespace Go.Proofs.YtedliepfaibefaaGreatDoor
open Go.RowKit Go.Nst
set_option maxRecDepth 100000
set_option linter.unusedVariables false
set_option linter.unusedSimpArgs false

def ofL (v k a b n : Int) (s t : List UInt8) : List Value := if Ol.ok ⟨v, k, a, b, n, s, t⟩ then (if v = 1 then [lfOne v k a b n s t] else [lfTwo v k a b n s t]) else []
theorem of_any (v k a b n : Int) (s t : List UInt8) (w : World) (hs : s.length ≤ 10000) (ht : t.length ≤ 10000) (hN : Nms w) : Calls Tryz.prog 38 #[.agg (OC v k a b n s t)] w (RetL w (ofL v k a b n s t).length (ofL v k a b n s t)) := by
  have HC := Lib.hid (fun W h => oldCheck_any v k a b n s t W (by omega) (by omega) h)
  have HN := Lib.hid (hN.below (bel_alloc (Below.refl w.heap.size w) (.cells (OC v k a b n s t) 25)))
  have hv0 := Blk.new w 25 (OC v k a b n s t)
  have B0 := bel_alloc (Below.refl w.heap.size w) (.cells (OC v k a b n s t) 25)
  unfold ofL
  clear hN
  cases hok : Ol.ok ⟨v, k, a, b, n, s, t⟩ with
  | false =>
    rw [hok] at HC
    clear hok
    simp only [OC] at *
    go_enter Tryz.func38, Tryz.ntmps38
    go_wp2_with fail
    (with_reducible refine (HC.out _ HN.out).mono ?_)
    rintro e w1 ⟨rfl, hb1⟩
    go_wp2_with fail
    go_ret
    exact RetRow.nil rfl (bel_step B0 hb1)
  | true =>
    rw [hok] at HC
    clear hok
    by_cases h1 : v = 1
    · have e1 : (v == 1) = true := by simpa using h1
      rw [if_pos rfl, if_pos h1]
      simp only [OC, lfOne] at *
      clear h1
      go_enter Tryz.func38, Tryz.ntmps38
      go_wp2_with fail
      (with_reducible refine (HC.out _ HN.out).mono ?_)
      rintro e w1 ⟨rfl, hb1⟩
      have hv1 := hv0.below hb1 hv0.lt
      have B1 := bel_step B0 hb1
      have y0 := hv1.cell 0
      have y1 := hv1.cell 1
      have y2 := hv1.cell 2
      have y3 := hv1.cell 3
      have y4 := hv1.cell 4
      have y5 := hv1.cell 5
      have y6 := hv1.cell 6
      try simp only [OC] at y0 y1 y2 y3 y4 y5 y6
      simp at y0 y1 y2 y3 y4 y5 y6
      clear hv0 hb1 B0
      go_wp2_with fail
      go_ret
      exact RetRow.lit rfl (by first | rfl | simp) rfl rfl (by omega) B1
    · have e1 : (v == 1) = false := by simpa using h1
      rw [if_pos rfl, if_neg h1]
      simp only [OC, lfTwo] at *
      clear h1
      go_enter Tryz.func38, Tryz.ntmps38
      go_wp2_with fail
      (with_reducible refine (HC.out _ HN.out).mono ?_)
      rintro e w1 ⟨rfl, hb1⟩
      have hv1 := hv0.below hb1 hv0.lt
      have B1 := bel_step B0 hb1
      have y0 := hv1.cell 0
      have y1 := hv1.cell 1
      have y2 := hv1.cell 2
      have y3 := hv1.cell 3
      have y4 := hv1.cell 4
      have y5 := hv1.cell 5
      have y6 := hv1.cell 6
      try simp only [OC] at y0 y1 y2 y3 y4 y5 y6
      simp at y0 y1 y2 y3 y4 y5 y6
      clear hv0 hb1 B0
      go_wp2_with fail
      go_ret
      exact RetRow.lit rfl (by first | rfl | simp) rfl rfl (by omega) B1
theorem ta_two (W : World) (x0 x1 x2 x3 x4 x5 x6 : Value) : (Instr.typeAssert (.iface 79 (.agg #[x0, x1, x2, x3, x4, x5, x6])) 78 79 true).run Tryz.prog W = .ok (.tuple #[.agg #[x0, x1, x2, x3, x4, x5, x6], .bool true]) W := by kernel_rfl
theorem ta_two_p (W : World) (x0 x1 x2 x3 x4 x5 x6 : Value) : (Instr.typeAssert (.iface 79 (.agg #[x0, x1, x2, x3, x4, x5, x6])) 78 79 false).run Tryz.prog W = .ok (.agg #[x0, x1, x2, x3, x4, x5, x6]) W := by kernel_rfl
theorem ta_one (W : World) (x0 x1 x2 x3 x4 x5 x6 : Value) : (Instr.typeAssert (.iface 105 (.agg #[x0, x1, x2, x3, x4, x5, x6])) 78 79 true).run Tryz.prog W = .ok (.tuple #[.agg #[.int .i64 0, .int .i64 0, .int .i64 0, .int .i64 0, .int .i64 0, .string ⟨#[]⟩, .string ⟨#[]⟩], .bool false]) W := by kernel_rfl
theorem ta_three (W : World) (x0 x1 x2 x3 x4 x5 x6 : Value) : (Instr.typeAssert (.iface 82 (.agg #[x0, x1, x2, x3, x4, x5, x6])) 78 82 true).run Tryz.prog W = .ok (.tuple #[.agg #[x0, x1, x2, x3, x4, x5, x6], .bool true]) W := by kernel_rfl
theorem me_one (fuel : Nat) (W : World) (x0 x1 x2 x3 x4 x5 x6 : Value) : (method (fuel + 1) 105 (.agg #[x0, x1, x2, x3, x4, x5, x6]) "newsstand/old.next").run Tryz.prog W = .ok (142, .agg #[x0, x1, x2, x3, x4, x5, x6]) W := by kernel_rfl
/-! ### rows of what is told -/
theorem lit_reads (w : World) (t : TypeId) (cs : Array Value) (s n k : Nat) (hl : cs.size = n * s) (hk : w.heap.size = k) : Reads (w.alloc (.cells cs t)) (w.alloc (.cells cs t)).heap.size s (some ⟨k, 0, none⟩) n cs.toList := by
  subst hk
  refine ⟨by rw [Array.length_toList, hl], fun _ => ⟨_, rfl, by simp, fun j u hu => ?_⟩⟩
  rw [add_lit, Nat.zero_add, (Blk.new w t cs).cell]
  simpa using hu
/-- a row that stands: its cells -/
def Rw (w : World) (A : Option Addr) (n : Nat) (xs : List Value) : Prop := n = 0 ∨ ∃ g, A = some ⟨g, 0, none⟩ ∧ g < w.heap.size ∧ ∀ j u, xs[j]? = some u → w.cell? ⟨g, j, none⟩ = some u
theorem Rw.of_own {w : World} {base n c s : Nat} {e : TypeId} {A : Option Addr} {xs : List Value} (h : w.ownsRow base e s (.slice A n c) n xs) : Rw w A n xs := by
  rcases Nat.eq_zero_or_pos n with h0 | h0
  · exact .inl h0
  · obtain ⟨g, rfl, _, hg, _⟩ := own_where h h0
    refine .inr ⟨g, rfl, hg, fun j u hu => ?_⟩
    have := World.ownsRow.cells (g := g) h rfl j u hu
    rwa [add_lit, Nat.zero_add] at this
theorem Rw.below {w w' : World} {A : Option Addr} {n : Nat} {xs : List Value} (h : Rw w A n xs) (hb : Below w.heap.size w w') : Rw w' A n xs := by
  rcases h with h0 | ⟨g, e, hg, hc⟩
  · exact .inl h0
  · exact .inr ⟨g, e, Nat.lt_of_lt_of_le hg hb.size, fun j u hu => (hb.cell (p := ⟨g, j, none⟩) hg).trans (hc j u hu)⟩
def olC (o : Ol) : List Value := [.int .i64 o.v, .int .i64 o.k, .int .i64 o.a, .int .i64 o.b, .int .i64 o.n, .string ⟨o.s.toArray⟩, .string ⟨o.t.toArray⟩]
def olsC (l : List Ol) : List Value := l.flatMap olC
theorem olsC_snoc (l : List Ol) (o : Ol) : olsC (l ++ [o]) = olsC l ++ olC o := by simp [olsC]
theorem olC_one (o : Ol) : ∀ u ∈ olC o, u.oneCell' = true := by
  intro u hu
  simp only [olC, List.mem_cons, List.not_mem_nil, or_false] at hu
  rcases hu with rfl | rfl | rfl | rfl | rfl | rfl | rfl <;> rfl
theorem iOlds : Info Tryz.prog 39 25 (.agg #[.int .i64 0, .int .i64 0, .int .i64 0, .int .i64 0, .int .i64 0, .string ⟨#[]⟩, .string ⟨#[]⟩]) 7 72 := Info.mk_ Tryz.underlying39 (by kernel_rfl) rfl (by omega)
abbrev RetOl := RetRow 25 7
set_option maxHeartbeats 4000000 in
theorem second_no (v k a b n : Int) (s t : List UInt8) (w : World) (hs : s.length ≤ 10000) (ht : t.length ≤ 10000) (hN : Nms w) (hok : Ol.ok ⟨v, k, a, b, n, s, t⟩ = false) : Calls Tryz.prog 13 #[.agg (OC v k a b n s t)] w (RetOl w 0 []) := by
  have HO := Lib.hid (fun W h => of_any v k a b n s t W hs ht h)
  have HN := Lib.hid (hN.below (bel_alloc (Below.refl w.heap.size w) (.cells (OC v k a b n s t) 25)))
  have B0 := bel_alloc (Below.refl w.heap.size w) (.cells (OC v k a b n s t) 25)
  unfold ofL at HO
  rw [hok] at HO
  simp only [OC] at *
  simp only [Bool.false_eq_true, if_false, List.length_nil] at HO
  clear hok hN
  go_enter Tryz.func13, Tryz.ntmps13
  go_wp2_with fail
  (with_reducible refine (HO.out _ HN.out).mono ?_)
  rintro e w1 ⟨A1, c1, rfl, ho1, hb1⟩
  go_wp2_with fail
  go_loop [3, 13] (fun y x => y = .slice none 0 0 ∧ x = .int .i64 0) (fun _ _ => 0)
  case atStart => exact ⟨rfl, rfl⟩
  case round =>
    obtain ⟨rfl, rfl⟩ := hrel
    go_wp2_with fail
    go_ret
    exact RetRow.nil rfl (bel_step B0 hb1)
set_option maxHeartbeats 4000000 in
theorem second_two (v k a b n : Int) (s t : List UInt8) (w : World) (hs : s.length ≤ 10000) (ht : t.length ≤ 10000) (hN : Nms w) (hok : Ol.ok ⟨v, k, a, b, n, s, t⟩ = true) (h1 : v ≠ 1) : Calls Tryz.prog 13 #[.agg (OC v k a b n s t)] w (RetOl w 1 (olsC [⟨v, k, a, b, n, s, t⟩])) := by
  have HO := Lib.hid (fun W h => of_any v k a b n s t W hs ht h)
  have HN := Lib.hid (hN.below (bel_alloc (Below.refl w.heap.size w) (.cells (OC v k a b n s t) 25)))
  have B0 := bel_alloc (Below.refl w.heap.size w) (.cells (OC v k a b n s t) 25)
  unfold ofL at HO
  rw [hok, if_pos rfl, if_neg h1] at HO
  simp only [OC, lfTwo] at *
  simp only [List.length_cons, List.length_nil, Nat.zero_add] at HO
  clear hok hN h1
  go_enter Tryz.func13, Tryz.ntmps13
  go_wp2_with fail
  (with_reducible refine (HO.out _ HN.out).mono ?_)
  rintro e w1 ⟨A1, c1, rfl, ho1, hb1⟩
  have B1 := bel_step B0 hb1
  obtain ⟨g, rfl, hg1, hg2, _⟩ := own_where ho1 (by omega)
  have hc := World.ownsRow.cells (g := g) ho1 rfl 0 _ rfl
  rw [add_lit] at hc
  simp at hc
  have HC0 := Lib.hid hc
  clear hb1 hc
  go_wp2_with fail
  go_loopw [3, 13] (fun y x wr => Below w1.heap.size w1 wr ∧ ((x = .int .i64 0 ∧ y = .slice none 0 0) ∨ (x = .int .i64 1 ∧ ∃ A c, y = .slice A 1 c ∧ wr.ownsRow w.heap.size 25 7 (.slice A 1 c) 1 (olsC [⟨v, k, a, b, n, s, t⟩])))) (fun _ x _ => (1 - intOf x).toNat)
  case atStart => exact ⟨Below.refl _ _, .inl ⟨rfl, rfl⟩⟩
  case round =>
    obtain ⟨hbw, hrel⟩ := hrel
    have hsz := B1.size
    have hsw := hbw.size
    rcases hrel with ⟨rfl, rfl⟩ | ⟨rfl, A, c, rfl, hrow⟩
    · have hc := (hbw.cell (p := ⟨g, 0, none⟩) hg2).trans HC0.out
      have ta := ta_two
      have hR := lit_reads (wr.alloc (.cells #[.int .i64 v, .int .i64 k, .int .i64 a, .int .i64 b, .int .i64 n, .string ⟨s.toArray⟩, .string ⟨t.toArray⟩] 79)) 25 #[.int .i64 v, .int .i64 k, .int .i64 a, .int .i64 b, .int .i64 n, .string ⟨s.toArray⟩, .string ⟨t.toArray⟩] 7 1 (wr.heap.size + 1) rfl (by simp)
      have hone := olC_one ⟨v, k, a, b, n, s, t⟩
      have B2 : Below w1.heap.size w1 ((wr.alloc (.cells #[.int .i64 v, .int .i64 k, .int .i64 a, .int .i64 b, .int .i64 n, .string ⟨s.toArray⟩, .string ⟨t.toArray⟩] 79)).alloc (.cells #[.int .i64 v, .int .i64 k, .int .i64 a, .int .i64 b, .int .i64 n, .string ⟨s.toArray⟩, .string ⟨t.toArray⟩] 25)) := bel_alloc (bel_alloc hbw _) _
      have hs2 := B2.size
      go_wp2_with (at_builtin; go_loud (refine wpList_app _ iOlds rfl rfl rfl (World.ownsRow_nil _ w.heap.size 25 7) rfl hR hone (by unfold maxLen; omega) (by omega) (by simp; omega) ?_; intro A' c' w' h2 h3 _))
      go_roundw
      case rel =>
        refine ⟨B2.trans ((Below.refl _ _).grown h3 hs2 (fun k hk => by cases hk)), .inr ⟨rfl, A', c', rfl, ?_⟩⟩
        exact h2
      case measure => simp [intOf]
    · go_wp2_with fail
      go_ret
      exact RetRow.of rfl hrow (bel_step B1 hbw)
end Go.Proofs.YtedliepfaibefaaGreatDoor
