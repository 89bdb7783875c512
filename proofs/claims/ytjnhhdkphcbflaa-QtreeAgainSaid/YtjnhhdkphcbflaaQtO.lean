/-
  A normal form is told to be one.
-/
import Derived.Test.YtjnhhdkphcbflaaQtN
namespace Go.Proofs.Ytjnhhdkphcbflaa
open Go.RowKit Go.Nst
set_option maxRecDepth 100000
set_option linter.unusedVariables false
set_option linter.unusedSimpArgs false

theorem norL_all : ∀ (l done : List Qy) (o : Int), norL l done o = true → ∀ (i : Nat) (x : Qy), l[i]? = some x → norB x o = true ∧ (∀ y ∈ done, samQ x y 1 = false) ∧ ∀ (j : Nat) (y : Qy), j < i → l[j]? = some y → samQ x y 1 = false
  | [], done, o, _, i, x, hi => by simp at hi
  | k :: ks, done, o, h, i, x, hi => by
    simp only [norL, Bool.and_eq_true, Bool.not_eq_true'] at h
    obtain ⟨⟨h1, h2⟩, h3⟩ := h
    cases i with
    | zero =>
      simp only [List.getElem?_cons_zero, Option.some.injEq] at hi
      subst hi
      refine ⟨h1, fun y hy => ?_, fun j y hj => absurd hj (by omega)⟩
      rw [List.any_eq_false] at h2
      simpa using h2 y hy
    | succ i =>
      simp only [List.getElem?_cons_succ] at hi
      obtain ⟨g1, g2, g3⟩ := norL_all ks (done ++ [k]) o h3 i x hi
      refine ⟨g1, fun y hy => g2 y (List.mem_append_left _ hy), fun j y hj hy => ?_⟩
      cases j with
      | zero =>
        simp only [List.getElem?_cons_zero, Option.some.injEq] at hy
        subst hy
        exact g2 k (by simp)
      | succ j => exact g3 j y (by omega) (by simpa using hy)
def normalP (q : Qy) : Prop := ∀ (i : Int) (vs : Array Value) (w : World) (S : Nat → Prop), norB q i = true → QAt w S vs q → Calls Try.prog 19 #[.agg vs, .int .i64 i] w fun e w' => e = .returned (.bool true) ∧ Below w.heap.size w w'
set_option maxHeartbeats 8000000 in
theorem normal25_yes (q : Qy) : normalP q := by
  refine Qy.ind (p := normalP) ?_ q
  intro o n s l ih i vs w S hn hq
  obtain ⟨A, c, rfl, hio, hin, hs, hc1, hc2, hk⟩ := hq.open_
  simp only [Qy.op, Qy.n, Qy.s, Qy.kids] at *
  have B0 := bel_alloc (Below.refl w.heap.size w) (.cells (qV o n s A l.length c) 24)
  have HX0 := Lib.hid (Blk.new w 24 (qV o n s A l.length c))
  have HK := Lib.hid (show QsAt w S A l.length l from hk)
  simp only [norB] at hn
  by_cases h5 : o = 5
  · subst h5
    rw [if_pos rfl] at hn
    simp only [Bool.and_eq_true, beq_iff_eq, bne_iff_ne] at hn
    obtain ⟨⟨⟨hl1, hk0⟩, ho1⟩, ho2⟩ := hn
    obtain ⟨x, rfl⟩ : ∃ x, l = [x] := by
      match l, hl1 with
      | [x], _ => exact ⟨x, rfl⟩
    simp only [List.headD_cons] at hk0 ho1 ho2
    obtain ⟨q, B, cq, bb, off, hg, rfl, -, hbs, hq', g1, g2, g3, g4, g5, f0, f1, f2, f3⟩ := hk.at (show 0 < 1 by simp)
    have hkq : x = q := by simpa using hg.out
    subst hkq
    rw [Nat.zero_mul, Nat.add_zero] at f0 f1 f2 f3
    rw [hk0] at f3
    have e1 : (x.op != 1) = true := by simpa using ho1
    have e2 : (x.op != 2) = true := by simpa using ho2
    clear ih hq hk hg hq' hk0 ho1 ho2 hl1 HK HX0
    simp only [qV, List.length_cons, List.length_nil, Nat.zero_add] at *
    go_enter Try.func19, Try.ntmps19
    go_wp2_with fail
    go_ret
    exact ⟨rfl, bel_alloc B0 _⟩
  have b5 : (o == 5) = false := by simpa using h5
  rw [if_neg h5] at hn
  by_cases h12 : o = 1 ∨ o = 2
  · rw [if_neg (by omega), if_pos h12] at hn
    have b3 : (o == 3) = false := by simp; omega
    have b4 : (o == 4) = false := by simp; omega
    have hi0 : (i == 0) = true := by simpa using hn
    clear ih hq hk hn HK HX0
    simp only [qV] at *
    rcases h12 with rfl | rfl
    all_goals
      go_enter Try.func19, Try.ntmps19
      go_wp2_with fail
      go_ret
      exact ⟨rfl, B0⟩
  have hL : norL l [] o = true ∧ (o = 3 ∨ o = 4 → o ≠ i ∧ 2 ≤ l.length) := by
    by_cases h34 : o = 3 ∨ o = 4
    · rw [if_pos h34] at hn
      simp only [Bool.and_eq_true, Bool.not_eq_true', decide_eq_false_iff_not] at hn
      exact ⟨hn.2, fun _ => by omega⟩
    · rw [if_neg h34, if_neg h12] at hn
      exact ⟨hn, fun h => absurd h h34⟩
  have HA := Lib.hid (norL_all l [] o hL.1)
  have HI := Lib.hid ih
  have b1 : (o == 1) = false := by simp; omega
  have b2 : (o == 2) = false := by simp; omega
  have hpar : ((o == 3) = true ∧ (o == i) = false ∧ decide (l.length < 2) = false ∧ decide ((l.length : Int) < 2) = false) ∨ ((o == 3) = false ∧ (o == 4) = true ∧ (o == i) = false ∧ decide (l.length < 2) = false ∧ decide ((l.length : Int) < 2) = false) ∨ ((o == 3) = false ∧ (o == 4) = false) := by
    by_cases h3 : o = 3
    · have := hL.2 (.inl h3); exact .inl ⟨by simpa using h3, by simpa using this.1, by simp; omega, by simp; omega⟩
    · by_cases h4 : o = 4
      · have := hL.2 (.inr h4); exact .inr (.inl ⟨by simpa using h3, by simpa using h4, by simpa using this.1, by simp; omega, by simp; omega⟩)
      · exact .inr (.inr ⟨by simpa using h3, by simpa using h4⟩)
  clear ih hq hk hn hL h12 h5
  simp only [qV] at B0 ⊢
  rcases hpar with ⟨t1, t2, t3, t4⟩ | ⟨t1, t2, t3, t4, t5⟩ | ⟨t1, t2⟩
  all_goals
    go_enter Try.func19, Try.ntmps19
    go_wp2_with fail
    go_loopw [6] (fun x wr => ∃ k : Nat, k ≤ l.length ∧ x = .int .i64 k ∧ Hid (Blk wr w.heap.size 24 (qV o n s A l.length c)) ∧ Below w.heap.size w wr) (fun x _ => l.length - (intOf x).toNat)
    case atStart => exact ⟨0, Nat.zero_le _, rfl, HX0, B0⟩
    case round =>
      obtain ⟨k, hkl, rfl, hx, hb⟩ := hrel
      obtain ⟨p0, p1, p2, p3⟩ := box_facts hx.out
      by_cases hlt : k < l.length
      · have hlt' : decide (k < l.length) = true := by simpa using hlt
        go_wp2_with fail
        refine wp_region_seq (by kernel_rfl) [(0, true), (1, true), (2, true), (3, true), (4, true), (5, true), (6, true), (7, false), (8, true)] (by kernel_rfl) rfl (by kernel_rfl) ?_
        intro w0 hb0
        have B1 := bel_step hb hb0
        obtain ⟨x, B, cx, b, off, hg, rfl, -, hbs, hx', g1, g2, g3, g4, g5, f0, f1, f2, f3⟩ := (HK.out.bel B1).at hlt
        have HX1 := Lib.hid (hx.out.below hb0 hx.out.lt)
        clear p0 p1 p2 p3
        obtain ⟨p0, p1, p2, p3⟩ := box_facts HX1.out
        have F0 := later f0
        have F1 := later f1
        have F2 := later f2
        have F3 := later f3
        have P0 := later p0
        have P3 := later p3
        obtain ⟨hno, -, hsm⟩ := HA.out k x hg.out
        have HSM := Lib.hid hsm
        have HC := Lib.hid (HI.out x (List.mem_of_getElem? hg.out) o _ w0 _ hno hx'.out)
        clear f0 f1 f2 f3 p0 p1 p2 p3 hno hsm hx hx'
        simp only [qV] at HC
        iterate 7 (refine wpSeq_take (o := ⟨_, _, _, _, _, _⟩) (v := ?_) rfl rfl ?_ ?_; rotate_left; (focus (intro W hW; go_simp; first | done | with_reducible rfl)); simp only [Act.put, List.setIfInBounds_toArray, List.set_cons_zero, List.set_cons_succ])
        clear F0 F1 F2 F3 P0 P3
        refine wpSeq_exec (o := ⟨_, _, _, _, _, _⟩) rfl rfl (fun K hK => ?_)
        go_simp
        (with_reducible refine (HC.out).mono ?_)
        rintro e w2 ⟨rfl, hb2⟩
        go_wp2_with fail
        refine hK _ _ hb2 ?_
        clear hK K
        iterate 1 (refine wpSeq_take (o := ⟨_, _, _, _, _, _⟩) (v := ?_) rfl rfl ?_ ?_; rotate_left; (focus (intro W hW; go_simp; first | done | with_reducible rfl)); simp only [Act.put, List.setIfInBounds_toArray, List.set_cons_zero, List.set_cons_succ])
        refine wpSeq_nil ?_
        have B2 := bel_step B1 hb2
        have HX2 := Lib.hid (HX1.out.below hb2 HX1.out.lt)
        go_wp2_with fail
        obtain ⟨wo, rfl⟩ : ∃ wo : World, wo = w2 := ⟨_, rfl⟩
        go_loopw [7] (fun y wv => ∃ j : Nat, j ≤ k ∧ y = .int .i64 j ∧ Hid (Blk wv w.heap.size 24 (qV o n s (some ⟨b, off, none⟩) l.length c)) ∧ Below w.heap.size w wv) (fun y _ => k - (intOf y).toNat)
        case atStart => exact ⟨0, Nat.zero_le _, rfl, HX2, B2⟩
        case round =>
          obtain ⟨j, hjk, rfl, hx3, hb3⟩ := hrel
          by_cases hlt2 : j < k
          · have hlt2' : decide (j < k) = true := by simpa using hlt2
            go_wp2_with fail
            refine wp_region_seq (by kernel_rfl) [(0, true), (1, true), (2, true), (3, true), (4, true), (5, true), (6, true), (7, true), (8, true), (9, true), (10, false)] (by kernel_rfl) rfl (by kernel_rfl) ?_
            intro w4 hb4
            have B4 := bel_step hb3 hb4
            obtain ⟨x1, B', cx', b', off', hg1, hA1, -, -, hx1', -, -, -, -, -, f0, f1, f2, f3⟩ := (HK.out.bel B4).at hlt
            injection hA1 with hA1
            injection hA1 with hA2 hA3
            subst hA2
            subst hA3
            have hxx : x1 = x := by have h1 := hg.out; have h2 := hg1.out; rw [h1] at h2; injection h2 with h2; exact h2.symm
            subst hxx
            obtain ⟨y, Y, cy, b2, off2, hgy, hA2, -, -, hy', -, -, -, -, -, y0, y1, y2, y3⟩ := (HK.out.bel B4).at (show j < l.length by omega)
            injection hA2 with hA2
            injection hA2 with hA4 hA5
            subst hA4
            subst hA5
            have HX4 := Lib.hid (hx3.out.below hb4 hx3.out.lt)
            obtain ⟨p0, p1, p2, p3⟩ := box_facts HX4.out
            have F0 := later f0
            have F1 := later f1
            have F2 := later f2
            have F3 := later f3
            have Y0 := later y0
            have Y1 := later y1
            have Y2 := later y2
            have Y3 := later y3
            have P3 := later p3
            have HC := Lib.hid (refSame_any25 x1 y _ _ w4 _ _ hx1'.out hy'.out)
            rw [HSM.out j y hlt2 hgy.out] at HC
            clear f0 f1 f2 f3 p0 p1 p2 p3 y0 y1 y2 y3 hx1' hy' hgy hg1 hx3
            simp only [qV] at HC
            have hjl : j < l.length := by omega
            iterate 10 (refine wpSeq_take (o := ⟨_, _, _, _, _, _⟩) (v := ?_) rfl rfl ?_ ?_; rotate_left; (focus (intro W hW; go_simp; first | done | with_reducible rfl)); simp only [Act.put, List.setIfInBounds_toArray, List.set_cons_zero, List.set_cons_succ])
            clear F0 F1 F2 F3 P3 Y0 Y1 Y2 Y3
            refine wpSeq_exec (o := ⟨_, _, _, _, _, _⟩) rfl rfl (fun K hK => ?_)
            go_simp
            (with_reducible refine (HC.out).mono ?_)
            rintro e w6 ⟨rfl, hb6⟩
            go_wp2_with fail
            refine hK _ _ hb6 ?_
            clear hK K
            refine wpSeq_nil ?_
            have B6 := bel_step B4 hb6
            have HX6 := Lib.hid (HX4.out.below hb6 HX4.out.lt)
            go_wp2_with fail
            go_roundw
            case rel => exact ⟨j + 1, by omega, by go_num, HX6, B6⟩
            case measure => simp [intOf]; omega
          · obtain rfl : j = k := by omega
            have hlt2' : decide (j < j) = false := by simp
            go_wp2_with fail
            go_roundw
            case rel => exact ⟨j + 1, by omega, by go_num, hx3, hb3⟩
            case measure => simp [intOf]; omega
      · obtain rfl : k = l.length := by omega
        have hlt' : decide (l.length < l.length) = false := by simp
        clear hx
        go_wp2_with fail
        go_ret
        exact ⟨rfl, hb⟩
end Go.Proofs.Ytjnhhdkphcbflaa
