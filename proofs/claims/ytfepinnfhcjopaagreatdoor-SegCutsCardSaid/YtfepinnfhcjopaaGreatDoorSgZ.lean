/-
  Segments: SegCuts walked.
-/
import Derived.Test.YtfepinnfhcjopaaGreatDoorSgY
namespace Go.Proofs.YtfepinnfhcjopaaGreatDoor
open Go.RowKit Go.Nst
set_option maxRecDepth 100000
set_option linter.unusedVariables false
set_option linter.unusedSimpArgs false

theorem endL_step {bs : List (List UInt8)} {k : Nat} {b : List UInt8} (h : bs[k]? = some b) : endL bs (k + 1) = endL bs k + (frameL b).length := by
  unfold endL
  rw [flatF_snoc h, List.length_append]
theorem upto_parts2 {w W : World} {A : Option Addr} {n j : Nat} {ps : List Part} (h : Reads W w.heap.size 1 A n (ps.map Part.val)) (hW : w.heap.size ≤ W.heap.size) (hj : j ≤ n) : Reads W W.heap.size 1 A j ((ps.take j).map Part.val) := by
  have := (h.upto hj).more hW
  rw [Nat.mul_one, ← List.map_take] at this
  exact this
set_option maxHeartbeats 16000000 in
theorem segCuts_walk (fi v : Int) (A : Option Addr) (n c : Nat) (ps : List Part) (at_ : Int) (w : World) (hP : Reads w w.heap.size 1 A n (ps.map Part.val)) (hQ : ∀ p ∈ ps, Bs w p.A p.n p.l ∧ p.n ≤ p.c ∧ p.c ≤ 9223372036854775807) (hnc : n ≤ c) (hc63 : c ≤ 9223372036854775807) (hat : -9223372036854775808 ≤ at_ ∧ at_ ≤ 9223372036854775807) (ht : Tab w) (hN : Nms w) : Calls Tryz.prog 5 #[.agg #[.int .i64 fi, .slice A n c, .int .i64 v], .int .i64 at_] w (RetTrue w) := by
  have B0 := bel_alloc (Below.refl w.heap.size w) (.cells #[.int .i64 fi, .slice A n c, .int .i64 v] 26)
  have x0 := Blk.new w 26 #[.int .i64 fi, .slice A n c, .int .i64 v]
  have ht0 := ht.below B0
  have hN0 := hN.below B0
  have HL := Lib.hid (fun W h k => lives18_any W h k)
  have y0 := x0.cell 0
  have y1 := x0.cell 1
  have y2 := x0.cell 2
  simp at y0 y1 y2
  by_cases h64 : 64 < n
  · have d1 : decide (64 < (n : Int)) = true := by simp; omega
    go_enter Tryz.func5, Tryz.ntmps5
    go_wp2_with fail
    (with_reducible refine (HL.out _ ht0 hN0).mono ?_)
    rintro e w1 ⟨rfl, hb⟩
    go_wp2_with fail
    go_ret
    exact ⟨rfl, bel_step B0 hb⟩
  have d1 : decide (64 < (n : Int)) = false := by simp; omega
  have hlen : ps.length = n := by have := hP.1; simpa using this
  have HLEN := Lib.hid hlen
  have HQ := Lib.hid hQ
  clear hQ hlen
  go_enter Tryz.func5, Tryz.ntmps5
  go_wp2_with fail
  go_loopw [5] (fun i wr => ∃ k : Nat, i = .int .i64 (k : Int) ∧ k ≤ n ∧ Blk wr w.heap.size 26 #[.int .i64 fi, .slice A n c, .int .i64 v] ∧ Below w.heap.size w wr ∧ Hid (∀ x ∈ ps.take k, x.n ≤ 1000)) (fun i _ => n - (intOf i).toNat)
  case atStart => exact ⟨0, rfl, by omega, x0, B0, Lib.hid (by simp)⟩
  case round =>
    clear y0 y1 y2 x0 B0 ht0 hN0
    obtain ⟨k, rfl, hk, x0, hbw, HA⟩ := hrel
    have ht0 := ht.below hbw
    have hN0 := hN.below hbw
    have y0 := x0.cell 0
    have y1 := x0.cell 1
    have y2 := x0.cell 2
    simp at y0 y1 y2
    by_cases hlt : k < n
    · obtain ⟨p, b, off, rfl, hp, hb, hc⟩ := part_at (hP.below hbw) hlt
      obtain ⟨pA, pn, pc, pl⟩ := p
      simp only at hc
      by_cases q2 : 1000 < pn
      · have e2 : decide (1000 < (pn : Int)) = true := by simp; omega
        clear hp
        go_wp2_with fail
        (with_reducible refine (HL.out _ ht0 hN0).mono ?_)
        rintro e w1 ⟨rfl, hb1⟩
        go_wp2_with fail
        go_ret
        exact ⟨rfl, bel_step hbw hb1⟩
      have e2 : decide (1000 < (pn : Int)) = false := by simp; omega
      have HA2 := Lib.hid (parts_all HA.out hp.out (by simp only; omega))
      clear hp
      go_wp2_with fail
      go_roundw
      case rel => exact ⟨k + 1, by go_num, by omega, x0, hbw, HA2⟩
      case measure => simp [intOf]; omega
    · obtain rfl : k = n := by omega
      have hsm : ∀ x ∈ ps, x.n ≤ 1000 := by
        have := HA.out
        rw [List.take_of_length_le (by rw [HLEN.out]; exact Nat.le_refl _)] at this
        exact this
      obtain ⟨bs, hbs⟩ : ∃ bs, ps.map Part.l = bs := ⟨_, rfl⟩
      have HBS := Lib.hid hbs
      have hbl : ∀ b ∈ bs, b.length ≤ 1000 := by
        intro b hb
        rw [← hbs, List.mem_map] at hb
        obtain ⟨p, hp, rfl⟩ := hb
        have := (HQ.out p hp).1.len
        have := hsm p hp
        omega
      have HBL : Hid (bs.length = k) := by rw [← hbs, List.length_map]; exact HLEN
      have HF := Lib.hid (fun W (h : Below w.heap.size w W) => refWrite18_any fi v A k c ps W ((hP.below h).more h.size) (fun p hp => ⟨(HQ.out p hp).1.below h, fun _ => by have := hsm p hp; omega⟩) hnc hc63)
      rw [hbs] at HF
      have HBB := Lib.hid hbl
      have HSM := Lib.hid hsm
      clear hsm hbs hbl
      have hrl : (wrL fi bs).length ≤ 300000 := by
        by_cases h0 : wrE fi bs = 0
        · obtain ⟨g1, g2, g3, g4⟩ := wr_fold h0
          have := flat_len bs 1000 HBB.out
          have hh := head_len18 fi
          rw [g4, List.length_append]
          have : bs.length * (1000 + 20) ≤ 64 * (1000 + 20) := Nat.mul_le_mul_right _ g2
          omega
        · have he : wrL fi bs = [] := by unfold wrL; rw [if_neg h0]
          rw [he]; simp
      have HWF := Lib.hid (wr_fold (fi := fi) (bs := bs))
      generalize hws : wrL fi bs = rs at *
      generalize wrE fi bs = er at *
      have HWS := Lib.hid hws
      clear hws
      go_wp2_with fail
      (with_reducible refine (HF.out _ hbw).mono ?_)
      rintro e w1 ⟨A1, n1, c1, rfl, ho1, hb1⟩
      have hn1 := ho1.len
      have B1 := bel_step hbw hb1
      have x1 := x0.below hb1 x0.lt
      have z0 := x1.cell 0
      have z1 := x1.cell 1
      have z2 := x1.cell 2
      simp at z0 z1 z2
      clear hb1 hbw x0 y0 y1 y2 ht0 hN0 HF
      by_cases he : er = 0
      case neg =>
        have e1 : decide (er = 0) = false := by simpa using he
        have e2 : (er != 0) = true := by simpa using he
        have ht1 := ht.below B1
        have hN1 := hN.below B1
        clear he
        go_wp2_with fail
        (with_reducible refine (HL.out _ ht1 hN1).mono ?_)
        rintro e w2 ⟨rfl, hb2⟩
        go_wp2_with fail
        go_ret
        exact ⟨rfl, bel_step B1 hb2⟩
      subst he
      obtain ⟨g1, g2, g3, g4⟩ := HWF.out rfl
      have hh := head_len18 fi
      have HH := Lib.hid (fun W => refHead18_any fi W g1)
      have hfl : rs.length = (headL18 fi).length + (flatF bs).length := by rw [g4, List.length_append]
      have HCT := Lib.hid (fun (a j : Nat) (q0 : a ≤ (flatF bs).length) (q1 : j ≤ bs.length) (q2 : endL bs j ≤ a) (q3 : j = bs.length ∨ a < endL bs (j + 1)) => cut_seg (fi := fi) g1 g2 (fun b hb => ⟨g3 b hb, by have := HBB.out b hb; omega⟩) q0 q1 q2 q3)
      rw [← g4] at HCT
      have HHL := Lib.hid (rfl : (headL18 fi).length = (headL18 fi).length)
      clear g1 g2 g3 HWF HWS
      have G4 := Lib.hid g4
      clear g4
      generalize headL18 fi = hd at *
      go_wp2_with fail
      (with_reducible refine (HH.out _).mono ?_)
      rintro e w2 ⟨A2, n2, c2, rfl, ho2, hb2⟩
      have hn2 := ho2.len
      have B2 := bel_step B1 hb2
      have x2 := x1.below hb2 x1.lt
      have q2 := ho1.below hb2
      have y0 := x2.cell 0
      have y1 := x2.cell 1
      have y2 := x2.cell 2
      simp at y0 y1 y2
      have ht2 := ht.below B2
      have hN2 := hN.below B2
      clear hb2 B1 x1 z0 z1 z2 ho1 ho2 HH
      by_cases a1 : at_ < (n2 : Int)
      · have e1 : decide (at_ < (n2 : Int)) = true := by simp; omega
        go_wp2_with fail
        (with_reducible refine (HL.out _ ht2 hN2).mono ?_)
        rintro e w3 ⟨rfl, hb3⟩
        go_wp2_with fail
        go_ret
        exact ⟨rfl, bel_step B2 hb3⟩
      have e1 : decide (at_ < (n2 : Int)) = false := by simp; omega
      by_cases a2 : (n1 : Int) < at_
      · have e2 : decide ((n1 : Int) < at_) = true := by simp; omega
        go_wp2_with fail
        (with_reducible refine (HL.out _ ht2 hN2).mono ?_)
        rintro e w3 ⟨rfl, hb3⟩
        go_wp2_with fail
        go_ret
        exact ⟨rfl, bel_step B2 hb3⟩
      have e2 : decide ((n1 : Int) < at_) = false := by simp; omega
      obtain ⟨a, rfl⟩ : ∃ a : Nat, at_ = (a : Int) := ⟨at_.toNat, by omega⟩
      have ham : a ≤ n1 := by omega
      have e3 : decide (a < n2) = false := by simp; omega
      have e4 : decide (n1 < a) = false := by simp; omega
      obtain ⟨d, had⟩ : ∃ d, a = hd.length + d := ⟨a - hd.length, by omega⟩
      obtain ⟨j, j1, j2, j3⟩ := cut_at bs d (by omega)
      have hseg := HCT.out d j (by omega) j1 j2 (by rcases j3 with q | q; (· exact .inl q); (· exact .inr q.2))
      rw [← had] at hseg
      have hcap := q2.cap
      have hcap63 := ow_cap63 q2
      have hX := segRead_any A1 a c1 (rs.take a) w2 (by omega) (by omega) hcap63 (q2.bs.upto ham) ht2 hN2
      rw [hseg] at hX
      have HX := Lib.hid hX
      rw [HBL.out] at j1
      have f1 : (a : Int) ≤ (c1 : Int) := by omega
      have f2 : (0 : Int) ≤ (a : Int) := by omega
      obtain ⟨V, hV⟩ : ∃ V, hd.length + endL bs j = V := ⟨_, rfl⟩
      rw [hV] at HX
      have hVa : V ≤ a := by omega
      have HJ : Hid (j = k ∨ (j < k ∧ ∃ b, bs[j]? = some b ∧ a < V + (frameL b).length)) := Lib.hid (by
        rw [HBL.out] at j3
        rcases j3 with q | ⟨q, q5⟩
        · exact .inl q
        · have hjl : j < bs.length := by rw [HBL.out]; exact q
          refine .inr ⟨q, bs[j], List.getElem?_eq_getElem hjl, ?_⟩
          have := endL_step (List.getElem?_eq_getElem hjl)
          omega)
      clear hV had j2 j3 hseg hX HCT hfl hh a1 a2 HHL G4 hn1 hn2
      go_wp2_with fail
      (with_reducible refine (HX.out).mono ?_)
      rintro e w3 ⟨A3, n3, c3, qs, rfl, hP3, he3, hb3⟩
      rw [show okS true = .int .i64 0 from rfl]
      have K3 := bel_alloc hb3 (.cells #[.int .i64 fi, .slice A3 n3 c3, .int .i64 (V : Int)] 26)
      have B3 := bel_step B2 K3
      have x3 := x2.below K3 x2.lt
      have u3 := Blk.new w3 26 #[.int .i64 fi, .slice A3 n3 c3, .int .i64 (V : Int)]
      have p3 := hP3.below (bel_alloc (Below.refl _ _) (.cells #[.int .i64 fi, .slice A3 n3 c3, .int .i64 (V : Int)] 26))
      have ht3 := ht.below B3
      have hN3 := hN.below B3
      have hn3 : n3 = j := by
        have h1 := p3.len
        have h2 := congrArg List.length he3
        rw [List.length_map, List.length_take, HBL.out] at h2
        omega
      subst hn3
      have s3 : w.heap.size < w3.heap.size := by have := x2.lt; have := hb3.size; omega
      clear hb3 K3 B2 x2 hP3 q2 ht2 hN2 y0 y1 y2 HX hcap hcap63
      go_wp2_with fail
      obtain ⟨g3, hg3⟩ : ∃ g, g = w3.heap.size := ⟨_, rfl⟩
      rw [← hg3] at u3 s3
      simp only [← hg3]
      generalize w3.alloc (.cells #[.int .i64 fi, .slice A3 n3 c3, .int .i64 (V : Int)] 26) = w4 at *
      clear hg3 d1 e1 e2 e3 e4
      refine wp_region_seq (by kernel_rfl) [(0, false), (1, true), (2, true), (3, true), (4, true), (5, true), (6, true), (7, true), (8, true), (9, true), (10, true), (11, true), (12, true), (13, true), (14, true), (15, true), (16, true), (17, true), (18, true), (19, true), (20, true), (21, true), (22, true), (23, true), (24, true), (25, true), (26, true), (27, false), (28, true), (29, true)] (by kernel_rfl) rfl (by kernel_rfl) ?_
      intro w5 hb5
      have B5 := bel_step B3 hb5
      have x5 := x3.below hb5 x3.lt
      have u5 := u3.below hb5 u3.lt
      have p5 := p3.below hb5
      have ht5 := ht.below B5
      have hN5 := hN.below B5
      clear hb5 B3 x3 u3 p3 ht3 hN3
      refine wpSeq_exec (o := ⟨_, _, _, _, _, _⟩) rfl rfl (fun K hK => ?_)
      go_simp
      (with_reducible refine (HL.out w5 ht5 hN5).mono ?_)
      rintro e w6 ⟨rfl, hb6⟩
      go_wp2_with fail
      refine hK _ _ hb6 ?_
      clear hK K
      have B6 := bel_step B5 hb6
      have x6 := x5.below hb6 x5.lt
      have u6 := u5.below hb6 u5.lt
      have p6 := p5.below hb6
      have cx : ∀ W, Below w6.heap.size w6 W → Blk W w.heap.size 26 #[.int .i64 fi, .slice A k c, .int .i64 v] := fun W hW => x6.below hW x6.lt
      have cu : ∀ W, Below w6.heap.size w6 W → Blk W g3 26 #[.int .i64 fi, .slice A3 n3 c3, .int .i64 (V : Int)] := fun W hW => u6.below hW u6.lt
      have a0 := fun W (hW : Below w6.heap.size w6 W) => (show W.cell? ⟨w.heap.size, 0, none⟩ = some (.int .i64 fi) from ((cx W hW).cell 0).trans rfl)
      have a1 := fun W (hW : Below w6.heap.size w6 W) => (show W.cell? ⟨w.heap.size, 1, none⟩ = some (.slice A k c) from ((cx W hW).cell 1).trans rfl)
      have b0 := fun W (hW : Below w6.heap.size w6 W) => (show W.cell? ⟨g3, 0, none⟩ = some (.int .i64 fi) from ((cu W hW).cell 0).trans rfl)
      have b1 := fun W (hW : Below w6.heap.size w6 W) => (show W.cell? ⟨g3, 1, none⟩ = some (.slice A3 n3 c3) from ((cu W hW).cell 1).trans rfl)
      clear hb6 B5 x5 u5 p5 ht5 hN5 cx cu
      have t1 : decide (k < n3) = false := by simp; omega
      have t2 : (n3 : Int) ≤ (c : Int) := by omega
      have HS := Lib.hid (same17_any A3 A n3 c3 n3 c qs (ps.take n3) w6 (by omega) p6.reads (upto_parts2 (hP.below B6) B6.size j1) p6.bs (fun p hp => (HQ.out p (List.mem_of_mem_take hp)).1.below B6) (by rw [he3, List.map_take, HBS.out]))
      iterate 26 (refine wpSeq_take (o := ⟨_, _, _, _, _, _⟩) (v := ?_) rfl rfl ?_ ?_; rotate_left; (focus (intro W hW; go_simp; first | done | with_reducible rfl)); simp only [Act.put, List.setIfInBounds_toArray, List.set_cons_zero, List.set_cons_succ])
      clear a0 a1 b0 b1
      refine wpSeq_exec (o := ⟨_, _, _, _, _, _⟩) rfl rfl (fun K hK => ?_)
      go_simp
      (with_reducible refine (HS.out).mono ?_)
      rintro e w7 ⟨rfl, hb7⟩
      go_wp2_with fail
      refine hK _ _ hb7 ?_
      clear hK K
      have B7 := bel_step B6 hb7
      have x7 := x6.below hb7 x6.lt
      have u7 := u6.below hb7 u6.lt
      clear hb7 B6 x6 u6 p6 HS
      iterate 2 (refine wpSeq_take (o := ⟨_, _, _, _, _, _⟩) (v := ?_) rfl rfl ?_ ?_; rotate_left; (focus (intro W hW; go_simp; first | done | with_reducible rfl)); simp only [Act.put, List.setIfInBounds_toArray, List.set_cons_zero, List.set_cons_succ])
      refine wpSeq_nil ?_
      go_wp2_with fail
      have t3 : decide (V ≤ a) = true := by simpa using hVa
      have t4 : decide ((V : Int) ≤ (a : Int)) = true := by simp; omega
      rcases HJ.out with hjk | ⟨hjk, b, hbj, hbl⟩
      · subst hjk
        have t5 : decide ((n3 : Int) = (n3 : Int)) = true := by simp
        refine wp_region_seq (by kernel_rfl) [(0, true), (1, true), (2, true), (3, true), (4, true), (5, true), (6, true), (7, true), (8, true), (9, true), (10, true), (11, true), (12, true), (13, true), (14, true), (15, true), (16, true), (17, true), (18, true), (19, true), (20, false), (21, true), (22, true), (23, true), (24, true), (25, true)] (by kernel_rfl) rfl (by kernel_rfl) ?_
        intro w8 hb8
        have B8 := bel_step B7 hb8
        have x8 := x7.below hb8 x7.lt
        have u8 := u7.below hb8 u7.lt
        have cx : ∀ W, Below w8.heap.size w8 W → Blk W w.heap.size 26 #[.int .i64 fi, .slice A n3 c, .int .i64 v] := fun W hW => x8.below hW x8.lt
        have cu : ∀ W, Below w8.heap.size w8 W → Blk W g3 26 #[.int .i64 fi, .slice A3 n3 c3, .int .i64 (V : Int)] := fun W hW => u8.below hW u8.lt
        have a1 := fun W (hW : Below w8.heap.size w8 W) => (show W.cell? ⟨w.heap.size, 1, none⟩ = some (.slice A n3 c) from ((cx W hW).cell 1).trans rfl)
        have b2 := fun W (hW : Below w8.heap.size w8 W) => (show W.cell? ⟨g3, 2, none⟩ = some (.int .i64 (V : Int)) from ((cu W hW).cell 2).trans rfl)
        clear hb8 B7 x7 u7 cx cu x8 u8
        iterate 11 (refine wpSeq_take (o := ⟨_, _, _, _, _, _⟩) (v := ?_) rfl rfl ?_ ?_; rotate_left; (focus (intro W hW; go_simp; first | done | with_reducible rfl)); simp only [Act.put, List.setIfInBounds_toArray, List.set_cons_zero, List.set_cons_succ])
        iterate 9 (refine wpSeq_skip (o := ⟨_, _, _, _, _, _⟩) rfl rfl ?_; simp only [Act.put, List.setIfInBounds_toArray, List.set_cons_zero, List.set_cons_succ])
        (refine wpSeq_none (o := ⟨_, _, _, _, _, _⟩) rfl rfl ?_; simp only [Act.put, List.setIfInBounds_toArray, List.set_cons_zero, List.set_cons_succ])
        iterate 2 (refine wpSeq_skip (o := ⟨_, _, _, _, _, _⟩) rfl rfl ?_; simp only [Act.put, List.setIfInBounds_toArray, List.set_cons_zero, List.set_cons_succ])
        iterate 3 (refine wpSeq_take (o := ⟨_, _, _, _, _, _⟩) (v := ?_) rfl rfl ?_ ?_; rotate_left; (focus (intro W hW; go_simp; first | done | with_reducible rfl)); simp only [Act.put, List.setIfInBounds_toArray, List.set_cons_zero, List.set_cons_succ])
        refine wpSeq_nil ?_
        go_wp2_with fail
        go_ret
        exact ⟨by simp, B8⟩
      · have t5 : decide ((n3 : Int) = (k : Int)) = false := by simp; omega
        have t6 : decide (n3 = k) = false := by simp; omega
        have t7 : ((n3 : Int) == (k : Int)) = false := by simp; omega
        have t8 : (n3 : Int) < (k : Int) := by omega
        obtain ⟨p, gb, off, hA, hp, hgb, hc⟩ := part_at hP hjk
        obtain ⟨Bp, hp1, hp2⟩ := HQ.out p (List.mem_of_getElem? hp.out)
        have hp3 := HSM.out p (List.mem_of_getElem? hp.out)
        have hpb : p.l = b := by
          have := HBS.out
          rw [← this, List.getElem?_map, hp.out] at hbj
          simpa using hbj
        obtain ⟨pA, pn, pc, pl⟩ := p
        simp only at Bp hp1 hp2 hp3 hpb hc
        subst hpb
        subst hA
        have t9 : IntKind.i64.wrap ((a : Int) - (V : Int)) = (a : Int) - (V : Int) := IntWalk.i64_in _ (by omega)
        have hflen := frame_len pl
        have HPU := Lib.hid (fun W (h : Bs W pA pn pl) => refPut17_any pA pn pc pl W (by omega) h)
        generalize frameL pl = fl at *
        have hbl' := hbl
        clear hp hbj
        refine wp_region_seq (by kernel_rfl) [(0, true), (1, true), (2, true), (3, true), (4, true), (5, true), (6, true), (7, true), (8, true), (9, true), (10, true), (11, true), (12, true), (13, true), (14, true), (15, true), (16, true), (17, true), (18, true), (19, true), (20, false), (21, true), (22, true), (23, true), (24, true), (25, true)] (by kernel_rfl) rfl (by kernel_rfl) ?_
        intro w8 hb8
        have B8 := bel_step B7 hb8
        have x8 := x7.below hb8 x7.lt
        have u8 := u7.below hb8 u7.lt
        have cx : ∀ W, Below w8.heap.size w8 W → Blk W w.heap.size 26 #[.int .i64 fi, .slice (some ⟨gb, off, none⟩) k c, .int .i64 v] := fun W hW => x8.below hW x8.lt
        have cu : ∀ W, Below w8.heap.size w8 W → Blk W g3 26 #[.int .i64 fi, .slice A3 n3 c3, .int .i64 (V : Int)] := fun W hW => u8.below hW u8.lt
        have a1 := fun W (hW : Below w8.heap.size w8 W) => (show W.cell? ⟨w.heap.size, 1, none⟩ = some (.slice (some ⟨gb, off, none⟩) k c) from ((cx W hW).cell 1).trans rfl)
        have b2 := fun W (hW : Below w8.heap.size w8 W) => (show W.cell? ⟨g3, 2, none⟩ = some (.int .i64 (V : Int)) from ((cu W hW).cell 2).trans rfl)
        clear hb8 B7 x7 u7 cx cu x8 u8
        have hcc := fun W (hW : Below w8.heap.size w8 W) => (show W.cell? ⟨gb, off + n3, none⟩ = some (.slice pA pn pc) from ((bel_step B8 hW).cell (p := ⟨gb, off + n3, none⟩) (by simpa using hgb)).trans hc)
        have hBp := Bp.below B8
        iterate 20 (refine wpSeq_take (o := ⟨_, _, _, _, _, _⟩) (v := ?_) rfl rfl ?_ ?_; rotate_left; (focus (intro W hW; go_simp; first | done | with_reducible rfl)); simp only [Act.put, List.setIfInBounds_toArray, List.set_cons_zero, List.set_cons_succ])
        clear a1 b2 hcc
        refine wpSeq_exec (o := ⟨_, _, _, _, _, _⟩) rfl rfl (fun K hK => ?_)
        go_simp
        (with_reducible refine (HPU.out _ hBp).mono ?_)
        rintro e w9 ⟨A9, n9, c9, rfl, ho9, hb9⟩
        go_wp2_with fail
        refine hK _ _ hb9 ?_
        clear hK K
        have hn9 := ho9.len
        have ta : decide ((a : Int) - (V : Int) < (n9 : Int)) = true := by simp; omega
        iterate 5 (refine wpSeq_take (o := ⟨_, _, _, _, _, _⟩) (v := ?_) rfl rfl ?_ ?_; rotate_left; (focus (intro W hW; go_simp; first | done | with_reducible rfl)); simp only [Act.put, List.setIfInBounds_toArray, List.set_cons_zero, List.set_cons_succ])
        refine wpSeq_nil ?_
        go_wp2_with fail
        go_ret
        exact ⟨by simp, bel_step B8 hb9⟩
end Go.Proofs.YtfepinnfhcjopaaGreatDoor
