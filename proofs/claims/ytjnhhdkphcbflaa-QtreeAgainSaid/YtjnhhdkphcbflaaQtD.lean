/-
  Sameness of queries: the code's, the document's.
-/
import Derived.Test.YtjnhhdkphcbflaaQtC
import Derived.Deep.QuietTactic
import Derived.BigQuiet
namespace Go.Proofs.Ytjnhhdkphcbflaa
open Go.RowKit Go.Nst
set_option maxRecDepth 100000
set_option linter.unusedVariables false
set_option linter.unusedSimpArgs false

set_option maxHeartbeats 2000000 in
theorem same25_any (q : Qy) : sameP 28 q := by
  refine Qy.ind (p := sameP 28) ?_ q
  intro o n s l ih q2 a vs v2 w S S2 ha hq hq2
  obtain ⟨A, c, rfl, ho, hn, hs, hc1, hc2, hk⟩ := hq.open_
  obtain ⟨A2, c2, rfl, ho2, hn2, hs2, hc12, hc22, hk2⟩ := hq2.open_
  obtain ⟨o2, n2, s2, l2⟩ := q2
  simp only [Qy.op, Qy.n, Qy.s, Qy.kids, qV] at *
  have B0 := bel_alloc (bel_alloc (bel_alloc (Below.refl w.heap.size w) (.cells #[.int .i64 o, .int .i64 n, .string ⟨s.toArray⟩, .slice A l.length c] 24)) (.cells #[.int .i64 o2, .int .i64 n2, .string ⟨s2.toArray⟩, .slice A2 l2.length c2] 24)) (.cells #[.int .i64 (a : Int)] 3)
  have HI := Lib.hid ih
  clear ih hq hq2
  by_cases h1 : 64 < a
  · have hb1 : decide (64 < (a : Int)) = true := by simp; omega
    have hf : samQ ⟨o, n, s, l⟩ ⟨o2, n2, s2, l2⟩ a = false := by simp [samQ, h1]
    have HF := Lib.hid hf
    clear hf
    go_enter Try.func28, Try.ntmps28
    go_wp2_with fail
    go_ret
    exact ⟨by rw [HF.out]; rfl, B0⟩
  have hb1 : decide (64 < (a : Int)) = false := by simp; omega
  by_cases h2 : o = o2
  case neg =>
    have hb2 : (o != o2) = true := by simpa using h2
    have hf : samQ ⟨o, n, s, l⟩ ⟨o2, n2, s2, l2⟩ a = false := by simp [samQ, Qy.op, h2]
    have HF := Lib.hid hf
    clear hf
    go_enter Try.func28, Try.ntmps28
    go_wp2_with fail
    go_ret
    exact ⟨by rw [HF.out]; rfl, B0⟩
  have hb2 : (o != o2) = false := by simpa using h2
  have H2 := Lib.hid h2
  clear h2
  by_cases h3 : n = n2
  case neg =>
    have hb3 : (n != n2) = true := by simpa using h3
    have hf : samQ ⟨o, n, s, l⟩ ⟨o2, n2, s2, l2⟩ a = false := by simp [samQ, Qy.n, h3]
    have HF := Lib.hid hf
    clear hf
    go_enter Try.func28, Try.ntmps28
    go_wp2_with fail
    go_ret
    exact ⟨by rw [HF.out]; rfl, B0⟩
  have hb3 : (n != n2) = false := by simpa using h3
  have H3 := Lib.hid h3
  clear h3
  by_cases h4 : s = s2
  case neg =>
    have hb4 : (s == s2) = false := by simpa using h4
    have hf : samQ ⟨o, n, s, l⟩ ⟨o2, n2, s2, l2⟩ a = false := by simp [samQ, Qy.s, h4]
    have HF := Lib.hid hf
    clear hf
    go_enter Try.func28, Try.ntmps28
    go_wp2_with fail
    go_ret
    exact ⟨by rw [HF.out]; rfl, B0⟩
  have hb4 : (s == s2) = true := by simpa using h4
  have H4 := Lib.hid h4
  clear h4
  have hf : samQ ⟨o, n, s, l⟩ ⟨o2, n2, s2, l2⟩ a = (decide (l.length = l2.length) && samL l l2 (a + 1)) := by
    simp only [samQ, Qy.op, Qy.n, Qy.s, Qy.kids, H2.out, H3.out, H4.out, beq_self_eq_true, Bool.and_true]
    rw [show decide (64 < a) = false by simpa using h1]
    rfl
  have HF := Lib.hid hf
  have E0 := bel_alloc (bel_alloc (bel_alloc (Below.refl w.heap.size w) (.cells #[.int .i64 o, .int .i64 n, .string ⟨s.toArray⟩, .slice A l.length c] 24)) (.cells #[.int .i64 o2, .int .i64 n2, .string ⟨s2.toArray⟩, .slice A2 l2.length c2] 24)) (.cells #[.int .i64 (a : Int)] 3)
  have HC := Lib.hid (equal25_any l HI.out l2 a (w.heap.size + 1 + 1) A A2 c c2 _ S S2 (by omega) ⟨hc1, hc2⟩ ⟨hc12, hc22⟩ (hk.bel E0) (hk2.bel E0) (by have := Blk.new ((w.alloc (.cells #[.int .i64 o, .int .i64 n, .string ⟨s.toArray⟩, .slice A l.length c] 24)).alloc (.cells #[.int .i64 o2, .int .i64 n2, .string ⟨s2.toArray⟩, .slice A2 l2.length c2] 24)) 3 #[.int .i64 (a : Int)]; simpa using this))
  clear hf h1 HI
  go_enter Try.func28, Try.ntmps28
  go_wp2_with fail
  (with_reducible refine (HC.out).mono ?_)
  rintro e w2 ⟨rfl, hb5⟩
  go_wp2_with fail
  go_ret
  exact ⟨by rw [HF.out]; rfl, bel_step B0 hb5⟩
theorem Same25_any (q q2 : Qy) (vs v2 : Array Value) (w : World) (S S2 : Nat → Prop) (hq : QAt w S vs q) (hq2 : QAt w S2 v2 q2) : Calls Try.prog 15 #[.agg vs, .agg v2] w fun e w' => e = .returned (.bool (samQ q q2 1)) ∧ Below w.heap.size w w' := by
  have B0 := bel_alloc (bel_alloc (Below.refl w.heap.size w) (.cells vs 24)) (.cells v2 24)
  have HC := Lib.hid (show Calls Try.prog 28 #[.agg vs, .agg v2, .int .i64 1] _ _ from same25_any q q2 1 vs v2 _ S S2 (by omega) (hq.bel B0) (hq2.bel B0))
  obtain ⟨A, c, rfl, ho, hn, hs, hc1, hc2, hk⟩ := hq.open_
  obtain ⟨A2, c2, rfl, ho2, hn2, hs2, hc12, hc22, hk2⟩ := hq2.open_
  simp only [qV] at *
  clear hq hq2
  go_enter Try.func15, Try.ntmps15
  go_wp2_with fail
  (with_reducible refine (HC.out).mono ?_)
  rintro e w2 ⟨rfl, hb2⟩
  go_wp2_with fail
  go_ret
  exact ⟨rfl, bel_step B0 hb2⟩
/-- what a cell holds it holds in every world that has only grown since -/
theorem later {w : World} {p : Addr} {u : Value} (h : w.cell? p = some u) : ∀ W, Below w.heap.size w W → W.cell? p = some u := fun W hW => (hW.cell (World.block_lt_of_cell? w p h)).trans h
set_option maxHeartbeats 4000000 in
theorem refSame25_any (q : Qy) : sameP 29 q := by
  refine Qy.ind (p := sameP 29) ?_ q
  intro o n s l ih q2 a vs v2 w S S2 ha hq hq2
  obtain ⟨A, c, rfl, ho, hn, hs, hc1, hc2, hk⟩ := hq.open_
  obtain ⟨A2, c2, rfl, ho2, hn2, hs2, hc12, hc22, hk2⟩ := hq2.open_
  obtain ⟨o2, n2, s2, l2⟩ := q2
  simp only [Qy.op, Qy.n, Qy.s, Qy.kids, qV] at *
  have B0 := bel_alloc (bel_alloc (Below.refl w.heap.size w) (.cells #[.int .i64 o, .int .i64 n, .string ⟨s.toArray⟩, .slice A l.length c] 24)) (.cells #[.int .i64 o2, .int .i64 n2, .string ⟨s2.toArray⟩, .slice A2 l2.length c2] 24)
  have X0 := (Blk.new w 24 (qV o n s A l.length c)).alloc (.cells (qV o2 n2 s2 A2 l2.length c2) 24)
  have Y0 := Blk.new (w.alloc (.cells (qV o n s A l.length c) 24)) 24 (qV o2 n2 s2 A2 l2.length c2)
  rw [show (w.alloc (.cells (qV o n s A l.length c) 24)).heap.size = w.heap.size + 1 by simp] at Y0
  have HI := Lib.hid ih
  clear ih hq hq2
  by_cases h1 : 64 < a
  · have hb1 : decide (64 < (a : Int)) = true := by simp; omega
    have hf : samQ ⟨o, n, s, l⟩ ⟨o2, n2, s2, l2⟩ a = false := by simp [samQ, h1]
    have HF := Lib.hid hf
    clear hf
    go_enter Try.func29, Try.ntmps29
    go_wp2_with fail
    go_ret
    exact ⟨by rw [HF.out]; rfl, B0⟩
  have hb1 : decide (64 < (a : Int)) = false := by simp; omega
  by_cases h2 : o = o2
  case neg =>
    have hb2 : (o != o2) = true := by simpa using h2
    have hf : samQ ⟨o, n, s, l⟩ ⟨o2, n2, s2, l2⟩ a = false := by simp [samQ, Qy.op, h2]
    have HF := Lib.hid hf
    clear hf
    go_enter Try.func29, Try.ntmps29
    go_wp2_with fail
    go_ret
    exact ⟨by rw [HF.out]; rfl, B0⟩
  have hb2 : (o != o2) = false := by simpa using h2
  have H2 := Lib.hid h2
  clear h2
  by_cases h3 : n = n2
  case neg =>
    have hb3 : (n != n2) = true := by simpa using h3
    have hf : samQ ⟨o, n, s, l⟩ ⟨o2, n2, s2, l2⟩ a = false := by simp [samQ, Qy.n, h3]
    have HF := Lib.hid hf
    clear hf
    go_enter Try.func29, Try.ntmps29
    go_wp2_with fail
    go_ret
    exact ⟨by rw [HF.out]; rfl, B0⟩
  have hb3 : (n != n2) = false := by simpa using h3
  have H3 := Lib.hid h3
  clear h3
  by_cases h4 : s = s2
  case neg =>
    have hb4 : (s == s2) = false := by simpa using h4
    have hf : samQ ⟨o, n, s, l⟩ ⟨o2, n2, s2, l2⟩ a = false := by simp [samQ, Qy.s, h4]
    have HF := Lib.hid hf
    clear hf
    go_enter Try.func29, Try.ntmps29
    go_wp2_with fail
    go_ret
    exact ⟨by rw [HF.out]; rfl, B0⟩
  have hb4 : (s == s2) = true := by simpa using h4
  have H4 := Lib.hid h4
  clear h4
  by_cases h5 : l.length = l2.length
  case neg =>
    have hb5 : ((l.length : Int) != (l2.length : Int)) = true := by simp; omega
    have hf : samQ ⟨o, n, s, l⟩ ⟨o2, n2, s2, l2⟩ a = false := by simp [samQ, Qy.kids, h5]
    have HF := Lib.hid hf
    clear hf
    go_enter Try.func29, Try.ntmps29
    go_wp2_with fail
    go_ret
    exact ⟨by rw [HF.out]; rfl, B0⟩
  have hf : samQ ⟨o, n, s, l⟩ ⟨o2, n2, s2, l2⟩ a = samL l l2 (a + 1) := by
    simp only [samQ, Qy.op, Qy.n, Qy.s, Qy.kids, H2.out, H3.out, H4.out, beq_self_eq_true, Bool.and_true]
    rw [show decide (64 < a) = false by simpa using h1, h5]
    simp
  have HF := Lib.hid hf
  have hb5 : ((l.length : Int) != (l2.length : Int)) = false := by simp; omega
  have H5 := Lib.hid h5
  have ha64 : (a : Int) ≤ 64 := by omega
  have kw : IntKind.i64.wrap ((a : Int) + 1) = (a : Int) + 1 := IntWalk.i64_in _ (by omega)
  rw [← h5] at hb5 hc12 hk2 X0 Y0 B0 ⊢
  clear hf h1 h5
  go_enter Try.func29, Try.ntmps29
  go_wp2_with fail
  go_loopw [7] (fun i wr => ∃ k : Nat, k ≤ l.length ∧ i = .int .i64 k ∧ Hid (samL (l.take k) (l2.take k) (a + 1) = true) ∧ Blk wr w.heap.size 24 (qV o n s A l.length c) ∧ Blk wr (w.heap.size + 1) 24 (qV o2 n2 s2 A2 l.length c2) ∧ Below w.heap.size w wr) (fun i _ => l.length - (intOf i).toNat)
  case atStart => exact ⟨0, Nat.zero_le _, rfl, Lib.hid (by simp [samL]), X0, Y0, B0⟩
  case round =>
    obtain ⟨k, hkl, rfl, hsofar, hx, hy, hb⟩ := hrel
    obtain ⟨-, -, -, x3⟩ := box_facts hx
    obtain ⟨-, -, -, y3⟩ := box_facts hy
    by_cases hlt : k < l.length
    · have hlt' : decide (k < l.length) = true := by simpa using hlt
      have HX := Lib.hid hx
      have HY := Lib.hid hy
      clear hx hy
      go_wp2_with fail
      refine wp_region_seq (by kernel_rfl) [(0, true), (1, true), (2, true), (3, true), (4, true), (5, true), (6, true), (7, true), (8, true), (9, true), (10, true), (11, true), (12, false), (13, true)] (by kernel_rfl) rfl (by kernel_rfl) ?_
      intro w0 hb0
      have B1 := bel_step hb hb0
      obtain ⟨q, B, c', b, off, hg, rfl, -, hbs, hq', g1, g2, g3, g4, g5, f0, f1, f2, f3⟩ := (hk.bel B1).at hlt
      obtain ⟨q2, B2, c2', b2, off2, hg2, rfl, -, hbs2, hq2', g12, g22, g32, g42, g52, f02, f12, f22, f32⟩ := (hk2.bel B1).at hlt
      have F0 := later f0
      have F1 := later f1
      have F2 := later f2
      have F3 := later f3
      have G0 := later f02
      have G1 := later f12
      have G2 := later f22
      have G3 := later f32
      have X3 := later (later x3 w0 hb0)
      have Y3 := later (later y3 w0 hb0)
      have HX0 := Lib.hid (HX.out.below hb0 HX.out.lt)
      have HY0 := Lib.hid (HY.out.below hb0 HY.out.lt)
      have hmem : q ∈ l := List.mem_of_getElem? hg.out
      have hsn : samL (l.take (k + 1)) (l2.take (k + 1)) (a + 1) = samQ q q2 (a + 1) := by
        rw [List.take_add_one, hg.out, List.take_add_one, hg2.out]
        show samL (l.take k ++ [q]) (l2.take k ++ [q2]) (a + 1) = _
        have := H5.out
        rw [samL_snoc _ _ _ _ _ (by simp; omega), hsofar.out, Bool.true_and]
      have HC := Lib.hid (HI.out q hmem q2 (a + 1) _ _ w0 S S2 (by omega) hq'.out hq2'.out)
      rw [show (((a + 1 : Nat)) : Int) = (a : Int) + 1 by omega] at HC
      have HS := Lib.hid hsn
      have HT := Lib.hid (samL_take l l2 (k + 1) (a + 1))
      clear hmem hsn hq' hq2' f0 f1 f2 f3 f02 f12 f22 f32 x3 y3
      simp only [qV] at HC
      generalize hsv : samQ q q2 (a + 1) = sv at *
      have HSV := Lib.hid hsv
      clear hsv
      iterate 12 (refine wpSeq_take (o := ⟨_, _, _, _, _, _⟩) (v := ?_) rfl rfl ?_ ?_; rotate_left; (focus (intro W hW; go_simp; first | done | with_reducible rfl)); simp only [Act.put, List.setIfInBounds_toArray, List.set_cons_zero, List.set_cons_succ])
      refine wpSeq_exec (o := ⟨_, _, _, _, _, _⟩) rfl rfl (fun K hK => ?_)
      go_simp
      (with_reducible refine (HC.out).mono ?_)
      rintro e w2 ⟨rfl, hb2⟩
      go_wp2_with fail
      refine hK _ _ hb2 ?_
      clear hK K
      iterate 1 (refine wpSeq_take (o := ⟨_, _, _, _, _, _⟩) (v := ?_) rfl rfl ?_ ?_; rotate_left; (focus (intro W hW; go_simp; first | done | with_reducible rfl)); simp only [Act.put, List.setIfInBounds_toArray, List.set_cons_zero, List.set_cons_succ])
      refine wpSeq_nil ?_
      have B3 := bel_step B1 hb2
      have HX2 := HX0.out.below hb2 HX0.out.lt
      have HY2 := HY0.out.below hb2 HY0.out.lt
      cases sv with
      | true =>
        go_wp2_with fail
        go_roundw
        case rel => exact ⟨k + 1, by omega, by go_num, Lib.hid HS.out, HX2, HY2, B3⟩
        case measure => simp [intOf]; omega
      | false =>
        go_wp2_with fail
        go_ret
        exact ⟨by rw [HF.out, HT.out HS.out]; rfl, B3⟩
    · obtain rfl : k = l.length := by omega
      have hfin : samL l l2 (a + 1) = true := by
        have := hsofar.out
        have e2 : l2.take l.length = l2 := List.take_of_length_le (by have := H5.out; omega)
        rw [List.take_length, e2] at this
        exact this
      have HFI := Lib.hid hfin
      have HX := Lib.hid hx
      have HY := Lib.hid hy
      clear hx hy hsofar hfin
      go_wp2_with fail
      go_ret
      exact ⟨by rw [HF.out, HFI.out]; rfl, hb⟩
theorem refSame_any25 (q q2 : Qy) (vs v2 : Array Value) (w : World) (S S2 : Nat → Prop) (hq : QAt w S vs q) (hq2 : QAt w S2 v2 q2) : Calls Try.prog 16 #[.agg vs, .agg v2] w fun e w' => e = .returned (.bool (samQ q q2 1)) ∧ Below w.heap.size w w' := by
  have B0 := bel_alloc (bel_alloc (Below.refl w.heap.size w) (.cells vs 24)) (.cells v2 24)
  have HC := Lib.hid (show Calls Try.prog 29 #[.agg vs, .agg v2, .int .i64 1] _ _ from refSame25_any q q2 1 vs v2 _ S S2 (by omega) (hq.bel B0) (hq2.bel B0))
  obtain ⟨A, c, rfl, ho, hn, hs, hc1, hc2, hk⟩ := hq.open_
  obtain ⟨A2, c2, rfl, ho2, hn2, hs2, hc12, hc22, hk2⟩ := hq2.open_
  simp only [qV] at *
  clear hq hq2
  go_enter Try.func16, Try.ntmps16
  go_wp2_with fail
  (with_reducible refine (HC.out).mono ?_)
  rintro e w2 ⟨rfl, hb2⟩
  go_wp2_with fail
  go_ret
  exact ⟨rfl, bel_step B0 hb2⟩
end Go.Proofs.Ytjnhhdkphcbflaa
