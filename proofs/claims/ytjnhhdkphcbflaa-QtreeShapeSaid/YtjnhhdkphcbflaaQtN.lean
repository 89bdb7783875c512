/-
  The document's tidy, of or; Norm (printed by gen_qtm.py).
-/
import Derived.Test.YtjnhhdkphcbflaaQtM
namespace Go.Proofs.Ytjnhhdkphcbflaa
open Go.RowKit Go.Nst
set_option maxRecDepth 100000
set_option linter.unusedVariables false
set_option linter.unusedSimpArgs false

set_option maxHeartbeats 8000000 in
theorem tidy25_4 (n : Int) (s : List UInt8) (l : List Qy) (hI : ∀ k ∈ l, tidyP k) : tidyP ⟨4, n, s, l⟩ := by
  intro vs w S hnd hq
  have HQ := Lib.hid hq
  obtain ⟨A, c, rfl, hio, hin, hs, hc1, hc2, hk⟩ := hq.open_
  simp only [Qy.op, Qy.n, Qy.s, Qy.kids] at *
  have hnk : nodQ ⟨4, n, s, l⟩ = 1 + nodL l 0 := nodQ_kids _
  have hnd2 : ∀ k ∈ l, nodQ k ≤ 1000 := fun k hk => by have := nodL_mem l 0 k hk; omega
  have hlen : l.length ≤ 1000 := by have := nodL_length l 0; omega
  have hfl : ∀ k, (flatR 4 (tidyL (l.take k)) []).length ≤ 1000 := fun k => by
    have h1 := flatR_len 4 (tidyL (l.take k))
    have h2 := tidyL_nod (l.take k)
    have h3 := nodL_take l 0 k
    omega
  have hr : tidyQ ⟨4, n, s, l⟩ = if winB (leafO 1) (keepL (leafO 2) (flatR 4 (tidyL l) []) []) then leafO 1 else endQ 4 (keepL (leafO 2) (flatR 4 (tidyL l) []) []) := by
    have h1 : tidyQ ⟨4, n, s, l⟩ = tidyR 4 (tidyL l) := by simp [tidyQ]
    rw [h1]
    rfl
  have HR := Lib.hid hr
  have HI := Lib.hid hI
  have HH := Lib.hid hnd2
  have HFL := Lib.hid hfl
  have HK := Lib.hid (show QsAt w (fun b => S b ∧ b < w.heap.size) A l.length l from hk.wide fun b h hlt => ⟨h, hlt⟩)
  clear hI HQ hq hr hk hnk hnd2 hnd hfl
  generalize tidyQ ⟨4, n, s, l⟩ = R at *
  have HB0 := Lib.hid (Bx.new w (qV 4 n s A l.length c) 2 1)
  have B0 := bel_alloc (bel_alloc (bel_alloc (bel_alloc (Below.refl w.heap.size w) (.cells (qV 4 n s A l.length c) 24)) (.cells (lfV 0) 24)) (.cells (lfV 2) 24)) (.cells (lfV 1) 24)
  simp only [qV, lfV] at B0 ⊢
  go_enter Try.func31, Try.ntmps31
  go_wp2_with fail
  go_loopw [5, 6] (fun v i wr => ∃ (k : Nat) (A' : Option Addr) (m c' : Nat), k ≤ l.length ∧ i = .int .i64 k ∧ v = .slice A' m c' ∧ Oq wr (w.heap.size + 4) (fun b => (S b ∧ b < w.heap.size) ∨ w.heap.size + 4 ≤ b) A' m c' (flatR 4 (tidyL (l.take k)) []) ∧ Hid (Bx wr w.heap.size (qV 4 n s A l.length c) 2 1) ∧ Below w.heap.size w wr) (fun _ i _ => l.length - (intOf i).toNat)
  case atStart => exact ⟨0, none, 0, 0, Nat.zero_le _, rfl, rfl, Oq.nil, HB0, B0⟩
  case round =>
    obtain ⟨k, A', m, c', hkn, rfl, rfl, hown, hbx, hb⟩ := hrel
    have hcap := hown.cap
    have hbl := hbx.out.lt
    have HMF := Lib.hid hown.len
    obtain ⟨p0, p1, p2, p3⟩ := box_facts hbx.out.1
    by_cases hlt : k < l.length
    · have hlt' : decide (k < l.length) = true := by simpa using hlt
      obtain ⟨q, B, cq, bb, off, hg, rfl, -, hbs, hq', g1, g2, g3, g4, g5, f0, f1, f2, f3⟩ := (HK.out.bel hb).at hlt
      have hmem : q ∈ l := List.mem_of_getElem? hg.out
      have htk : tidyL (l.take (k + 1)) = tidyL (l.take k) ++ [tidyQ q] := by
        rw [tidyL_map, tidyL_map, List.take_add_one, hg.out]; simp
      have hsn : flatR 4 (tidyL (l.take (k + 1))) [] = if (tidyQ q).op = 4 then flatR 4 (tidyL (l.take k)) [] ++ (tidyQ q).kids else flatR 4 (tidyL (l.take k)) [] ++ [tidyQ q] := by
        rw [htk]; exact flatR_snoc 4 _ _ _
      have hle := HFL.out (k + 1)
      have HS := Lib.hid hsn
      have HLE := Lib.hid hle
      have HC := Lib.hid (HI.out q hmem _ wr _ (HH.out q hmem) hq'.out)
      have HLT := Lib.hid hown.lt
      have HOW := Lib.hid hown
      clear hsn hle htk hown hq' hmem
      simp only [qV] at HC
      generalize tidyQ q = nq at *
      go_wp2_with fail
      (with_reducible refine (HC.out).mono ?_)
      rintro e w2 ⟨v2, rfl, hq2, hb2⟩
      have B2 := bel_step hb hb2
      have HQ2 := Lib.hid hq2
      obtain ⟨A2, c2, rfl, gg1, gg2, gg3, gg4, gg5, -⟩ := hq2.open_
      have hsz2 := hb2.size
      have HBX2 := Lib.hid (hbx.out.below hb2 (by omega))
      have E2 := bel_alloc (Below.refl w2.heap.size w2) (.cells (qV nq.op nq.n nq.s A2 nq.kids.length c2) 24)
      have HBX3 := Lib.hid (HBX2.out.below E2 (by omega))
      have hsrc := Lib.hid ((HQ2.out.wide (S' := fun b => ((S b ∧ b < w.heap.size) ∨ w.heap.size + 4 ≤ b) ∧ some b ≠ (Value.slice A' m c').ownBlock) (fun b h _ => h.elim (fun h => ⟨.inl h, fun e => by have := HLT.out b e.symm; omega⟩) (fun h => ⟨.inr (by omega), fun e => by have := HLT.out b e.symm; omega⟩))).bel E2)
      have HOW3 := Lib.hid ((HOW.out.bel hb2).bel E2)
      obtain ⟨x0, x1, x2, x3⟩ := box_facts HBX3.out.1
      obtain ⟨z0, z1, z2, z3⟩ := box_facts (Blk.new w2 24 (qV nq.op nq.n nq.s A2 nq.kids.length c2))
      have B3 := bel_step B2 E2
      clear hq2 hbx p0 p1 p2 p3
      simp only [qV] at x0 x1 x2 x3 z0 z1 z2 z3 E2 B3 ⊢
      by_cases e1 : nq.op = 4
      · have t1 : (nq.op == 4) = true := by simpa using e1
        have hfn : flatR 4 (tidyL (l.take (k + 1))) [] = flatR 4 (tidyL (l.take k)) [] ++ nq.kids := by rw [HS.out, if_pos e1]
        have hle := HLE.out
        rw [hfn, List.length_append, HMF.out] at hle
        have HFN := Lib.hid hfn
        have hkr := hsrc.out.kidsAt.r (S' := fun b => ((S b ∧ b < w.heap.size) ∨ w.heap.size + 4 ≤ b) ∧ some b ≠ (Value.slice A' m c').ownBlock) (fun b h _ => h)
        have ho3 := HOW3.out
        have hbase : w.heap.size + 4 ≤ (w2.alloc (.cells (qV nq.op nq.n nq.s A2 nq.kids.length c2) 24)).heap.size := by simp; omega
        clear hfn e1
        simp only [qV] at ho3 hkr hbase
        go_wp2_with (at_builtin; go_loud (refine wpList_appQ rfl rfl rfl ho3 rfl hkr (by omega) hbase ?_; intro A'' c'' w3 ho4 hb4))
        have B4 := B3.trans (hb4.mono (by omega))
        have hbx4 := Lib.hid (HBX3.out.below hb4 (by omega))
        go_roundw
        case rel => exact ⟨k + 1, A'', m + nq.kids.length, c'', by omega, by go_num, rfl, by rw [HFN.out]; exact ho4, hbx4, B4⟩
        case measure => simp [intOf]; omega
      · have t1 : (nq.op == 4) = false := by simpa using e1
        have hfn : flatR 4 (tidyL (l.take (k + 1))) [] = flatR 4 (tidyL (l.take k)) [] ++ [nq] := by rw [HS.out, if_neg e1]
        have hle := HLE.out
        rw [hfn, List.length_append, HMF.out] at hle
        simp only [List.length_cons, List.length_nil] at hle
        have HFN := Lib.hid hfn
        have hlit := hsrc.out.lit' (g := w2.heap.size + 1) (by simp)
        have ho3 := HOW3.out.bel (bel_alloc (Below.refl _ _) (.cells (qV nq.op nq.n nq.s A2 nq.kids.length c2) 24))
        have hbase : w.heap.size + 4 ≤ ((w2.alloc (.cells (qV nq.op nq.n nq.s A2 nq.kids.length c2) 24)).alloc (.cells (qV nq.op nq.n nq.s A2 nq.kids.length c2) 24)).heap.size := by simp; omega
        have HBX4 := Lib.hid (HBX3.out.below (bel_alloc (Below.refl _ _) (.cells (qV nq.op nq.n nq.s A2 nq.kids.length c2) 24)) (by simp; omega))
        have B4 := bel_alloc B3 (.cells (qV nq.op nq.n nq.s A2 nq.kids.length c2) 24)
        clear hfn e1
        simp only [qV] at ho3 hlit hbase B4
        go_wp2_with (at_builtin; go_loud (refine wpList_appQ rfl rfl rfl ho3 rfl hlit (by omega) hbase ?_; intro A'' c'' w3 ho4 hb4))
        have B5 := B4.trans (hb4.mono (by omega))
        have hbx5 := Lib.hid (HBX4.out.below hb4 (by omega))
        go_roundw
        case rel => exact ⟨k + 1, A'', m + 1, c'', by omega, by go_num, rfl, by rw [HFN.out]; exact ho4, hbx5, B5⟩
        case measure => simp [intOf]; omega
    · obtain rfl : k = l.length := by omega
      have hlt' : decide (l.length < l.length) = false := by simp
      have HF := Lib.hid (hown.qs (S' := fun b => ((S b ∧ b < w.heap.size) ∨ w.heap.size + 4 ≤ b) ∧ b < wr.heap.size) (fun b h lt => ⟨h, lt⟩) (fun b h lt => ⟨.inr h, lt⟩))
      have hm9 : m ≤ 1000 := by have := HFL.out l.length; have := HMF.out; omega
      rw [List.take_length] at HF HMF
      generalize flatR 4 (tidyL l) [] = F at *
      obtain ⟨hcap1, hcap2⟩ := hcap
      obtain ⟨wo, rfl⟩ : ∃ wo : World, wo = wr := ⟨_, rfl⟩
      clear hown
      go_wp2_with fail
      clear p0 p1 p2 p3
      go_loopw [8, 9] (fun v i wv => ∃ (k : Nat) (A2 : Option Addr) (m2 c2 : Nat), k ≤ m ∧ m2 ≤ k ∧ i = .int .i64 k ∧ v = .slice A2 m2 c2 ∧ Oq wv wo.heap.size (fun b => ((S b ∧ b < w.heap.size) ∨ w.heap.size + 4 ≤ b) ∧ b < wo.heap.size) A2 m2 c2 (keepL (leafO 2) (F.take k) []) ∧ Below wo.heap.size wo wv) (fun _ i _ => m - (intOf i).toNat)
      case atStart => exact ⟨0, none, 0, 0, Nat.zero_le _, Nat.le_refl _, rfl, rfl, Oq.nil, Below.refl _ _⟩
      case round =>
        obtain ⟨k, A2, m2, c2, hkm, hm2k, rfl, rfl, hown, hb3⟩ := hrel
        have hcap := hown.cap
        have hs3 := hb3.size
        by_cases hlt : k < m
        · have hlt' : decide (k < m) = true := by simpa using hlt
          have HOW := Lib.hid hown
          obtain ⟨hcc1, hcc2⟩ := hcap
          clear hown
          go_wp2_with fail
          refine wp_region_seq (by kernel_rfl) [(0, true), (1, true), (2, true), (3, true), (4, true), (5, false), (6, true), (7, true), (8, true), (9, true), (10, true), (11, true), (12, true), (13, false), (14, true), (15, true)] (by kernel_rfl) rfl (by kernel_rfl) ?_
          intro w0 hb0
          have B1 := hb3.trans (hb0.mono hs3)
          obtain ⟨x, B, cx, bb, off, hg, rfl, hSb, hbs, hx', g1, g2, g3, g4, g5, f0, f1, f2, f3⟩ := (HF.out.bel B1).at hlt
          have HBX0 := Lib.hid (hbx.out.below B1 (by omega))
          obtain ⟨n0, n1, n2, n3, -, -⟩ := lf_facts HBX0.out.2.2.1
          have F0 := later f0
          have F1 := later f1
          have F2 := later f2
          have F3 := later f3
          have N0 := later n0
          have N1 := later n1
          have N2 := later n2
          have N3 := later n3
          have hsn : keepL (leafO 2) (F.take (k + 1)) [] = if !samQ x (leafO 2) 1 && !hasB (keepL (leafO 2) (F.take k) []) x then keepL (leafO 2) (F.take k) [] ++ [x] else keepL (leafO 2) (F.take k) [] := by
            rw [List.take_add_one, hg.out]; exact keep_snoc _ _ _ _
          have HS := Lib.hid hsn
          have HX := Lib.hid hx'.out
          have HSM := Lib.hid (refSame_any25 x (leafO 2) _ (lfV 2) w0 _ (fun _ => True) HX.out (lf_at (by omega)))
          have HOW0 := Lib.hid (HOW.out.bel hb0)
          clear hsn hx' f0 f1 f2 f3 n0 n1 n2 n3 hSb
          simp only [qV, lfV] at HSM
          generalize samQ x (leafO 2) 1 = sv at *
          generalize hacc : keepL (leafO 2) (F.take k) [] = acc at *
          have HACC := Lib.hid hacc
          clear hacc
          iterate 5 (refine wpSeq_take (o := ⟨_, _, _, _, _, _⟩) (v := ?_) rfl rfl ?_ ?_; rotate_left; (focus (intro W hW; go_simp; first | done | with_reducible rfl)); simp only [Act.put, List.setIfInBounds_toArray, List.set_cons_zero, List.set_cons_succ])
          refine wpSeq_exec (o := ⟨_, _, _, _, _, _⟩) rfl rfl (fun K hK => ?_)
          go_simp
          (with_reducible refine (HSM.out).mono ?_)
          rintro e w2 ⟨rfl, hb2⟩
          go_wp2_with fail
          refine hK _ _ hb2 ?_
          clear hK K
          have B2 := B1.trans (hb2.mono (by have := B1.size; omega))
          have HOW2 := Lib.hid (HOW0.out.bel hb2)
          have tr2 : ∀ W, Below w2.heap.size w2 W → Below w0.heap.size w0 W := fun W h => bel_step hb2 h
          cases sv with
          | true =>
            have HSN : Hid (keepL (leafO 2) (F.take (k + 1)) [] = acc) := Lib.hid (by rw [HS.out]; simp)
            clear F0 F1 F2 F3 N0 N1 N2 N3
            iterate 2 (refine wpSeq_take (o := ⟨_, _, _, _, _, _⟩) (v := ?_) rfl rfl ?_ ?_; rotate_left; (focus (intro W hW; go_simp; first | done | with_reducible rfl)); simp only [Act.put, List.setIfInBounds_toArray, List.set_cons_zero, List.set_cons_succ])
            iterate 5 (refine wpSeq_skip (o := ⟨_, _, _, _, _, _⟩) rfl rfl ?_; simp only [Act.put, List.setIfInBounds_toArray, List.set_cons_zero, List.set_cons_succ])
            refine wpSeq_none (o := ⟨_, _, _, _, _, _⟩) rfl rfl ?_
            simp only [Act.put, List.setIfInBounds_toArray, List.set_cons_zero, List.set_cons_succ]
            iterate 1 (refine wpSeq_skip (o := ⟨_, _, _, _, _, _⟩) rfl rfl ?_; simp only [Act.put, List.setIfInBounds_toArray, List.set_cons_zero, List.set_cons_succ])
            iterate 1 (refine wpSeq_take (o := ⟨_, _, _, _, _, _⟩) (v := ?_) rfl rfl ?_ ?_; rotate_left; (focus (intro W hW; go_simp; first | done | with_reducible rfl)); simp only [Act.put, List.setIfInBounds_toArray, List.set_cons_zero, List.set_cons_succ])
            refine wpSeq_nil ?_
            go_wp2_with fail
            go_roundw
            case rel => exact ⟨k + 1, A2, m2, c2, by omega, by omega, by go_num, rfl, by rw [HSN.out]; exact HOW2.out, B2⟩
            case measure => simp [intOf]; omega
          | false =>
            have HX2 := Lib.hid (HX.out.bel hb2)
            have HHC := Lib.hid (has25_any acc x A2 m2 c2 _ w2 (fun _ => True) _ ⟨hcc1, hcc2⟩ (HOW2.out.qs (fun _ _ _ => trivial) (fun _ _ _ => trivial)) HX2.out)
            simp only [qV] at HHC
            generalize hasB acc x = hv at *
            iterate 7 (refine wpSeq_take (o := ⟨_, _, _, _, _, _⟩) (v := ?_) rfl rfl ?_ ?_; rotate_left; (focus (intro W hW; go_simp; first | done | with_reducible rfl)); simp only [Act.put, List.setIfInBounds_toArray, List.set_cons_zero, List.set_cons_succ])
            clear F0 F1 F2 F3 N0 N1 N2 N3
            refine wpSeq_exec (o := ⟨_, _, _, _, _, _⟩) rfl rfl (fun K hK => ?_)
            go_simp
            (with_reducible refine (HHC.out).mono ?_)
            rintro e w4 ⟨rfl, hb4⟩
            go_wp2_with fail
            refine hK _ _ hb4 ?_
            clear hK K
            iterate 2 (refine wpSeq_take (o := ⟨_, _, _, _, _, _⟩) (v := ?_) rfl rfl ?_ ?_; rotate_left; (focus (intro W hW; go_simp; first | done | with_reducible rfl)); simp only [Act.put, List.setIfInBounds_toArray, List.set_cons_zero, List.set_cons_succ])
            refine wpSeq_nil ?_
            have B4 := B2.trans (hb4.mono (by have := B2.size; omega))
            have HOW4 := Lib.hid (HOW2.out.bel hb4)
            have HX4 := Lib.hid (HX2.out.bel hb4)
            cases hv with
            | true =>
              have HSN : Hid (keepL (leafO 2) (F.take (k + 1)) [] = acc) := Lib.hid (by rw [HS.out]; simp)
              go_wp2_with fail
              go_roundw
              case rel => exact ⟨k + 1, A2, m2, c2, by omega, by omega, by go_num, rfl, by rw [HSN.out]; exact HOW4.out, B4⟩
              case measure => simp [intOf]; omega
            | false =>
              have HSN : Hid (keepL (leafO 2) (F.take (k + 1)) [] = acc ++ [x]) := Lib.hid (by rw [HS.out]; simp)
              obtain ⟨x', B', cx', b', off', hg', hA', hSb', hbs', hx', g1', g2', g3', g4', g5', f0, f1, f2, f3⟩ := (HF.out.bel B4).at hlt
              have hxx : x' = x := by have h1 := hg.out; have h2 := hg'.out; rw [h1] at h2; injection h2 with h2; exact h2.symm
              subst hxx
              injection hA' with hA'
              injection hA' with hA1 hA2
              subst hA1
              subst hA2
              have HLT := Lib.hid HOW4.out.lt
              have hsrc := (hx'.out.wide (S' := fun b => (((S b ∧ b < w.heap.size) ∨ w.heap.size + 4 ≤ b) ∧ b < wo.heap.size) ∧ some b ≠ (Value.slice A2 m2 c2).ownBlock) (fun b h _ => ⟨h, fun e => by have := HLT.out b e.symm; omega⟩))
              have hlit := hsrc.lit' (g := w4.heap.size) rfl
              have E4 := bel_alloc (Below.refl w4.heap.size w4) (.cells (qV x'.op x'.n x'.s B' x'.kids.length cx') 24)
              have ho5 := HOW4.out.bel E4
              have hbase : wo.heap.size ≤ (w4.alloc (.cells (qV x'.op x'.n x'.s B' x'.kids.length cx') 24)).heap.size := by have := B4.size; simp; omega
              have B5 := B4.trans (E4.mono (by have := B4.size; omega))
              clear hsrc hx' hg'
              simp only [qV] at hlit ho5 hbase B5
              go_wp2_with (at_builtin; go_loud (refine wpList_appQ rfl rfl rfl ho5 rfl hlit (by omega) hbase ?_; intro A'' c'' w5 ho6 hb6))
              have B6 := B5.trans hb6
              go_roundw
              case rel => exact ⟨k + 1, A'', m2 + 1, c'', by omega, by omega, by go_num, rfl, by rw [HSN.out]; exact ho6, B6⟩
              case measure => simp [intOf]; omega
        · obtain rfl : k = m := by omega
          have hlt' : decide (k < k) = false := by simp
          have HKQ := Lib.hid (hown.qs (S' := fun b => (S b ∧ b < w.heap.size) ∨ w.heap.size + 4 ≤ b) (fun b h _ => h.1) (fun b h _ => .inr (by omega)))
          rw [List.take_of_length_le (by have := HMF.out; omega)] at HKQ
          have HML := Lib.hid HKQ.out.1
          generalize keepL (leafO 2) F [] = K2 at *
          have HBX1 := Lib.hid (hbx.out.below hb3 (by omega))
          have BQ := bel_step hb hb3
          obtain ⟨hcc1, hcc2⟩ := hcap
          obtain ⟨wq, rfl⟩ : ∃ wq : World, wq = wr := ⟨_, rfl⟩
          clear hown hbx
          have hbl1 := HBX1.out.lt
          go_wp2_with fail
          go_loopw [10] (fun i wv => ∃ (k : Nat), k ≤ m2 ∧ i = .int .i64 k ∧ Hid (winU (leafO 1) K2 k = false) ∧ Below wq.heap.size wq wv) (fun i _ => m2 - (intOf i).toNat)
          case atStart => exact ⟨0, Nat.zero_le _, rfl, Lib.hid (by simp [winU]), Below.refl _ _⟩
          case round =>
            obtain ⟨j, hjm, rfl, hwu, hb5⟩ := hrel
            have hs5 := hb5.size
            by_cases hlt2 : j < m2
            · have hlt2' : decide (j < m2) = true := by simpa using hlt2
              go_wp2_with fail
              refine wp_region_seq (by kernel_rfl) [(0, true), (1, true), (2, true), (3, true), (4, true), (5, false), (6, true), (7, true), (8, true), (9, true), (10, true), (11, true), (12, false), (13, false), (14, true)] (by kernel_rfl) rfl (by kernel_rfl) ?_
              intro w0 hb0
              have B1 := hb5.trans (hb0.mono hs5)
              obtain ⟨x, B, cx, bb, off, hg, rfl, hSb, hbs, hx', g1, g2, g3, g4, g5, f0, f1, f2, f3⟩ := (HKQ.out.bel B1).at hlt2
              have HBX0 := Lib.hid (HBX1.out.below B1 (by omega))
              obtain ⟨n0, n1, n2, n3, -, -⟩ := lf_facts HBX0.out.2.2.2
              have F0 := later f0
              have F1 := later f1
              have F2 := later f2
              have F3 := later f3
              have N0 := later n0
              have N1 := later n1
              have N2 := later n2
              have N3 := later n3
              have HW1 := Lib.hid (winU_succ (z := leafO 1) hg.out hwu.out)
              have HWY := Lib.hid (fun h => winU_yes (z := leafO 1) (f := K2) (k := j + 1) h)
              have HX := Lib.hid hx'.out
              have HSM := Lib.hid (refSame_any25 x (leafO 1) _ (lfV 1) w0 _ (fun _ => True) HX.out (lf_at (by omega)))
              clear hx' f0 f1 f2 f3 n0 n1 n2 n3 hSb
              simp only [qV, lfV] at HSM
              generalize samQ x (leafO 1) 1 = sv at *
              iterate 5 (refine wpSeq_take (o := ⟨_, _, _, _, _, _⟩) (v := ?_) rfl rfl ?_ ?_; rotate_left; (focus (intro W hW; go_simp; first | done | with_reducible rfl)); simp only [Act.put, List.setIfInBounds_toArray, List.set_cons_zero, List.set_cons_succ])
              refine wpSeq_exec (o := ⟨_, _, _, _, _, _⟩) rfl rfl (fun K hK => ?_)
              go_simp
              (with_reducible refine (HSM.out).mono ?_)
              rintro e w2 ⟨rfl, hb2⟩
              go_wp2_with fail
              refine hK _ _ hb2 ?_
              clear hK K
              have B2 := B1.trans (hb2.mono (by have := B1.size; omega))
              have tr2 : ∀ W, Below w2.heap.size w2 W → Below w0.heap.size w0 W := fun W h => bel_step hb2 h
              cases sv with
              | true =>
                have HRR : Hid (R = leafO 1) := Lib.hid (by rw [HR.out, if_pos (HWY.out (by rw [HW1.out]; rfl))])
                clear F0 F1 F2 F3 N0 N1 N2 N3
                iterate 1 (refine wpSeq_take (o := ⟨_, _, _, _, _, _⟩) (v := ?_) rfl rfl ?_ ?_; rotate_left; (focus (intro W hW; go_simp; first | done | with_reducible rfl)); simp only [Act.put, List.setIfInBounds_toArray, List.set_cons_zero, List.set_cons_succ])
                iterate 5 (refine wpSeq_skip (o := ⟨_, _, _, _, _, _⟩) rfl rfl ?_; simp only [Act.put, List.setIfInBounds_toArray, List.set_cons_zero, List.set_cons_succ])
                refine wpSeq_none (o := ⟨_, _, _, _, _, _⟩) rfl rfl ?_
                refine wpSeq_none (o := ⟨_, _, _, _, _, _⟩) rfl rfl ?_
                simp only [Act.put, List.setIfInBounds_toArray, List.set_cons_zero, List.set_cons_succ]
                iterate 1 (refine wpSeq_take (o := ⟨_, _, _, _, _, _⟩) (v := ?_) rfl rfl ?_ ?_; rotate_left; (focus (intro W hW; go_simp; first | done | with_reducible rfl)); simp only [Act.put, List.setIfInBounds_toArray, List.set_cons_zero, List.set_cons_succ])
                refine wpSeq_nil ?_
                have HBX2 := Lib.hid (HBX1.out.below B2 (by omega))
                obtain ⟨r0, r1, r2, r3, r4, r5⟩ := lf_facts HBX2.out.2.1
                obtain ⟨n0, n1, n2, n3, -, -⟩ := lf_facts HBX2.out.2.2.2
                have hz := set4 HBX2.out.2.1 (.int .i64 1) (.int .i64 0) (.string ⟨#[]⟩) (.slice none 0 0)
                have HZ := Lib.hid (res_facts hz)
                have BF := bel_step BQ B2
                clear hz
                go_wp2_with fail
                obtain ⟨y0, y1, y2, y3, -, -⟩ := HZ.out
                exact bodyPost_ret (v := .agg #[.int .i64 1, .int .i64 0, .string ⟨#[]⟩, .slice none 0 0]) (by simp [results, Try.results31, go_sem, y0, y1, y2, y3]) rfl ⟨_, rfl, by rw [HRR.out]; exact QAt.leaf (s := []) (i64P_lit (by omega)) (i64P_lit (by omega)) (by simp), bel4 BF (by omega) _ _ _ _⟩
              | false =>
                have HX2 := Lib.hid (HX.out.bel hb2)
                have HNT := Lib.hid (Not25_any x _ w2 _ HX2.out)
                have HW2 : Hid (winU (leafO 1) K2 (j + 1) = hasB K2 (notQ x)) := Lib.hid (by rw [HW1.out]; rfl)
                simp only [qV] at HNT
                iterate 6 (refine wpSeq_take (o := ⟨_, _, _, _, _, _⟩) (v := ?_) rfl rfl ?_ ?_; rotate_left; (focus (intro W hW; go_simp; first | done | with_reducible rfl)); simp only [Act.put, List.setIfInBounds_toArray, List.set_cons_zero, List.set_cons_succ])
                clear F0 F1 F2 F3 N0 N1 N2 N3
                refine wpSeq_exec (o := ⟨_, _, _, _, _, _⟩) rfl rfl (fun K hK => ?_)
                go_simp
                (with_reducible refine (HNT.out).mono ?_)
                rintro e w4 ⟨v4, rfl, hq4, hb4⟩
                have HQ4 := Lib.hid hq4
                obtain ⟨A4, c4, rfl, -, -, -, -, -, -⟩ := hq4.open_
                clear hq4
                simp only [qV]
                go_wp2_with fail
                refine hK _ _ hb4 ?_
                clear hK K
                have B4 := B2.trans (hb4.mono (by have := B2.size; omega))
                have HHC := Lib.hid (has25_any K2 (notQ x) (some ⟨bb, off, none⟩) m2 c2 _ w4 _ _ ⟨hcc1, hcc2⟩ (HKQ.out.bel B4) HQ4.out)
                simp only [qV] at HHC
                generalize hasB K2 (notQ x) = hv at *
                refine wpSeq_exec (o := ⟨_, _, _, _, _, _⟩) rfl rfl (fun K hK => ?_)
                go_simp
                (with_reducible refine (HHC.out).mono ?_)
                rintro e w6 ⟨rfl, hb6⟩
                go_wp2_with fail
                refine hK _ _ hb6 ?_
                clear hK K
                iterate 1 (refine wpSeq_take (o := ⟨_, _, _, _, _, _⟩) (v := ?_) rfl rfl ?_ ?_; rotate_left; (focus (intro W hW; go_simp; first | done | with_reducible rfl)); simp only [Act.put, List.setIfInBounds_toArray, List.set_cons_zero, List.set_cons_succ])
                refine wpSeq_nil ?_
                have B6 := B4.trans (hb6.mono (by have := B4.size; omega))
                cases hv with
                | false =>
                  go_wp2_with fail
                  go_roundw
                  case rel => exact ⟨j + 1, by omega, by go_num, HW2, B6⟩
                  case measure => simp [intOf]; omega
                | true =>
                  have HRR : Hid (R = leafO 1) := Lib.hid (by rw [HR.out, if_pos (HWY.out HW2.out)])
                  have HBX2 := Lib.hid (HBX1.out.below B6 (by omega))
                  have B2 := B6
                  obtain ⟨r0, r1, r2, r3, r4, r5⟩ := lf_facts HBX2.out.2.1
                  obtain ⟨n0, n1, n2, n3, -, -⟩ := lf_facts HBX2.out.2.2.2
                  have hz := set4 HBX2.out.2.1 (.int .i64 1) (.int .i64 0) (.string ⟨#[]⟩) (.slice none 0 0)
                  have HZ := Lib.hid (res_facts hz)
                  have BF := bel_step BQ B2
                  clear hz
                  go_wp2_with fail
                  obtain ⟨y0, y1, y2, y3, -, -⟩ := HZ.out
                  exact bodyPost_ret (v := .agg #[.int .i64 1, .int .i64 0, .string ⟨#[]⟩, .slice none 0 0]) (by simp [results, Try.results31, go_sem, y0, y1, y2, y3]) rfl ⟨_, rfl, by rw [HRR.out]; exact QAt.leaf (s := []) (i64P_lit (by omega)) (i64P_lit (by omega)) (by simp), bel4 BF (by omega) _ _ _ _⟩
            · obtain rfl : j = m2 := by omega
              have hlt2' : decide (j < j) = false := by simp
              have hnw : winB (leafO 1) K2 = false := by have := hwu.out; rwa [winU_all (by have := HML.out; omega)] at this
              have HRE : Hid (R = endQ 4 K2) := Lib.hid (by rw [HR.out, hnw]; rfl)
              have HBX2 := Lib.hid (HBX1.out.below hb5 (by omega))
              have HQS := Lib.hid (HKQ.out.bel hb5)
              obtain ⟨p0, p1, p2, p3⟩ := box_facts HBX2.out.1
              obtain ⟨r0, r1, r2, r3, r4, r5⟩ := lf_facts HBX2.out.2.1
              obtain ⟨n0, n1, n2, n3, -, -⟩ := lf_facts HBX2.out.2.2.1
              have BF := bel_step BQ hb5
              clear hnw hwu
              by_cases hk0 : j = 0
              · subst hk0
                have hf : K2 = [] := List.eq_nil_of_length_eq_zero HML.out
                have HRR : Hid (R = leafO 2) := Lib.hid (by rw [HRE.out, hf]; rfl)
                have hz := set4 HBX2.out.2.1 (.int .i64 2) (.int .i64 0) (.string ⟨#[]⟩) (.slice none 0 0)
                have HZ := Lib.hid (res_facts hz)
                clear hz hf
                go_wp2_with fail
                obtain ⟨y0, y1, y2, y3, -, -⟩ := HZ.out
                exact bodyPost_ret (v := .agg #[.int .i64 2, .int .i64 0, .string ⟨#[]⟩, .slice none 0 0]) (by simp [results, Try.results31, go_sem, y0, y1, y2, y3]) rfl ⟨_, rfl, by rw [HRR.out]; exact QAt.leaf (s := []) (i64P_lit (by omega)) (i64P_lit (by omega)) (by simp), bel4 BF (by omega) _ _ _ _⟩
              have hk0' : (j == 0) = false := by simpa using hk0
              by_cases hk1 : j = 1
              · subst hk1
                obtain ⟨q, B, cq, b, off, hg, rfl, -, hbs, hq', g1, g2, g3, g4, g5, f0, f1, f2, f3⟩ := HQS.out.at (show 0 < 1 by omega)
                have hf : K2 = [q] := by
                  have := HML.out
                  match K2, this with
                  | [x], _ => simpa using hg.out
                have HRR : Hid (R = q) := Lib.hid (by rw [HRE.out, hf]; rfl)
                rw [Nat.zero_mul, Nat.add_zero] at f0 f1 f2 f3
                have hz := set4 HBX2.out.2.1 (.int .i64 q.op) (.int .i64 q.n) (.string ⟨q.s.toArray⟩) (.slice B q.kids.length cq)
                have HZ := Lib.hid (res_facts hz)
                have HQ1 := Lib.hid hq'.out
                clear hz hf hq'
                go_wp2_with fail
                obtain ⟨y0, y1, y2, y3, -, -⟩ := HZ.out
                refine bodyPost_ret (v := .agg #[.int .i64 q.op, .int .i64 q.n, .string ⟨q.s.toArray⟩, .slice B q.kids.length cq]) (by simp [results, Try.results31, go_sem, y0, y1, y2, y3]) rfl ⟨_, rfl, ?_, bel4 BF (by omega) _ _ _ _⟩
                rw [HRR.out]
                exact (HQ1.out.set4 (by omega) _ _ _ _).wide (fun b h _ => h.elim (fun h => .inl h.1) (fun h => .inr (by omega)))
              have hk1' : (j == 1) = false := by simpa using hk1
              have HRR : Hid (R = ⟨4, 0, [], K2⟩) := Lib.hid (by rw [HRE.out]; exact end_many (by have := HML.out; omega))
              have hz := set4 HBX2.out.2.1 (.int .i64 4) (.int .i64 0) (.string ⟨#[]⟩) (.slice A2 j c2)
              have HZ := Lib.hid (res_facts hz)
              clear hz
              go_wp2_with fail
              obtain ⟨y0, y1, y2, y3, -, -⟩ := HZ.out
              refine bodyPost_ret (v := .agg #[.int .i64 4, .int .i64 0, .string ⟨#[]⟩, .slice A2 j c2]) (by simp [results, Try.results31, go_sem, y0, y1, y2, y3]) rfl ⟨_, rfl, ?_, bel4 BF (by omega) _ _ _ _⟩
              rw [HRR.out]
              exact QAt.make (s := []) (i64P_lit (by omega)) (i64P_lit (by omega)) (by simp) ⟨hcc1, hcc2⟩ ((HQS.out.set4 (by omega) _ _ _ _).wide (fun b h _ => h.elim (fun h => .inl h.1) (fun h => .inr (by omega))))

theorem tidy25_any (q : Qy) : tidyP q := by
  refine Qy.ind (p := tidyP) ?_ q
  intro o n s l ih
  by_cases h3 : o = 3
  · subst h3; exact tidy25_3 n s l ih
  by_cases h4 : o = 4
  · subst h4; exact tidy25_4 n s l ih
  exact tidy25_else _ (fun h => h.elim h3 h4)
theorem push_nod (q : Qy) : Shp q → ∀ b, nodQ (pushQ q b) ≤ 2 * nodQ q := by
  refine Qy.ind (p := fun q => Shp q → ∀ b, nodQ (pushQ q b) ≤ 2 * nodQ q) ?_ q
  intro o n s l ih hs b
  have hp := nodQ_pos ⟨o, n, s, l⟩
  by_cases h5 : o = 5
  · subst h5
    cases hs with
    | leaf _ _ h => exact absurd rfl h
    | many h => omega
    | nt hk =>
      rename_i k
      have h1 := ih k (by simp) hk (!b)
      have e : nodQ ⟨5, 0, [], [k]⟩ = 1 + nodQ k := by simp [nodQ, nodL]
      simp only [pushQ, pushH, if_true]
      omega
  · have hkS : ∀ k ∈ l, Shp k := by
      cases hs with
      | leaf => intro k hk; cases hk
      | nt => exact absurd rfl h5
      | many _ h => exact h
    have hm : nodL (pushL l b) 0 ≤ 2 * nodL l 0 := by
      have : ∀ l : List Qy, (∀ k ∈ l, nodQ (pushQ k b) ≤ 2 * nodQ k) → nodL (pushL l b) 0 ≤ 2 * nodL l 0 := by
        intro l
        induction l with
        | nil => intro _; simp [pushL, nodL]
        | cons x xs ih2 =>
          intro h
          have h1 := h x (by simp)
          have h2 := ih2 fun k hk => h k (List.mem_cons_of_mem _ hk)
          simp only [pushL, nodL]
          rw [nodL_add, nodL_add xs]; omega
      exact this l fun k hk => ih k hk (hkS k hk) b
    have e : nodQ ⟨o, n, s, l⟩ = 1 + nodL l 0 := nodQ_kids _
    have e2 : ∀ o', nodQ ⟨o', n, s, pushL l b⟩ = 1 + nodL (pushL l b) 0 := fun o' => nodQ_kids _
    have e3 : nodQ (notQ ⟨o, n, s, l⟩) = 1 + nodQ ⟨o, n, s, l⟩ := by rw [nodQ_kids]; simp [notQ, Qy.kids, nodL]
    simp only [pushQ, if_neg h5]
    split
    · rw [e2]; omega
    · split
      · rw [e2]; omega
      · rw [e3]; omega
set_option maxHeartbeats 2000000 in
theorem refNorm25_any (q : Qy) (hsh : Shp q) (hnd : nodQ q ≤ 400) (vs : Array Value) (w : World) (S : Nat → Prop) (hq : QAt w S vs q) : Calls Try.prog 18 #[.agg vs] w (RetQ w S (refNorm q)) := by
  have hpn := push_nod q hsh false
  have B0 := bel_alloc (bel_alloc (Below.refl w.heap.size w) (.cells vs 24)) (.cells #[.int .i64 0, .int .i64 0, .string ⟨#[]⟩, .slice none 0 0] 24)
  have Y0 := Blk.new (w.alloc (.cells vs 24)) 24 #[.int .i64 0, .int .i64 0, .string ⟨#[]⟩, .slice none 0 0]
  rw [show (w.alloc (.cells vs 24)).heap.size = w.heap.size + 1 by simp] at Y0
  have HY0 := Lib.hid Y0
  have HC := Lib.hid (pushed25_any q hsh false vs _ _ (by omega) ((show QAt w (fun b => S b ∧ b < w.heap.size) vs q from hq.wide fun b h lt => ⟨h, lt⟩).bel B0))
  have HT := Lib.hid (fun vs W S hW => tidy25_any (pushQ q false) vs W S (by omega) hW)
  have HE : Hid (refNorm q = tidyQ (pushQ q false)) := Lib.hid rfl
  obtain ⟨A, c, rfl, -, -, -, -, -, -⟩ := hq.open_
  clear hq Y0 hsh hnd hpn
  generalize tidyQ (pushQ q false) = R at *
  generalize refNorm q = R' at *
  generalize pushQ q false = Q2 at *
  simp only [qV] at *
  go_enter Try.func18, Try.ntmps18
  go_wp2_with fail
  (with_reducible refine (HC.out).mono ?_)
  rintro e w1 ⟨v1, rfl, hq1, hb1⟩
  have B1 := bel_step B0 hb1
  have HQ1 := Lib.hid hq1
  have HY1 := Lib.hid (HY0.out.below hb1 HY0.out.lt)
  obtain ⟨A1, c1, rfl, -, -, -, -, -, -⟩ := hq1.open_
  clear hq1
  have HT1 := Lib.hid (HT.out _ w1 _ HQ1.out)
  simp only [qV] at HT1 ⊢
  go_wp2_with fail
  (with_reducible refine (HT1.out).mono ?_)
  rintro e w2 ⟨v2, rfl, hq2, hb2⟩
  have B2 := bel_step B1 hb2
  have HQ2 := Lib.hid hq2
  obtain ⟨A2, c2, rfl, -, -, -, -, -, -⟩ := hq2.open_
  have hx2 := HY1.out.below hb2 HY1.out.lt
  obtain ⟨r0, r1, r2, r3, r4, r5⟩ := res_facts hx2
  have hz := set4 hx2 (.int .i64 R.op) (.int .i64 R.n) (.string ⟨R.s.toArray⟩) (.slice A2 R.kids.length c2)
  have HZ := Lib.hid (res_facts hz)
  have hsz1 := hb1.size
  clear hq2 hz hx2
  simp only [qV]
  go_wp2_with fail
  obtain ⟨y0, y1, y2, y3, -, -⟩ := HZ.out
  refine bodyPost_ret (v := .agg #[.int .i64 R.op, .int .i64 R.n, .string ⟨R.s.toArray⟩, .slice A2 R.kids.length c2]) (by simp [results, Try.results18, go_sem, y0, y1, y2, y3]) rfl ⟨_, rfl, ?_, bel4 B2 (by omega) _ _ _ _⟩
  rw [HE.out]
  exact (HQ2.out.set4 (by simp at hsz1 ⊢; omega) _ _ _ _).wide (fun b h _ => h.elim (fun h => h.elim (fun h => .inl h.1) (fun h => .inr (by simp at h; omega))) (fun h => .inr (by simp at hsz1; omega)))
end Go.Proofs.Ytjnhhdkphcbflaa
