/-
  Segments: SegNames walked (printed by gen_sgnames.py).
-/
import Derived.Test.YtfepinnfhcjopaaGreatDoorSgX
namespace Go.Proofs.YtfepinnfhcjopaaGreatDoor
open Go.RowKit Go.Nst
set_option maxRecDepth 100000
set_option linter.unusedVariables false
set_option linter.unusedSimpArgs false

set_option maxHeartbeats 16000000 in
theorem segNames_walk (n : Int) (nm : List UInt8) (A : Option Addr) (m c : Nat) (l : List UInt8) (w : World) (hnl : nm.length ≤ 9223372036854775807) (hB : Bs w A m l) (hmc : m ≤ c) (hc63 : c ≤ 9223372036854775807) (ht : Tab w) (hN : Nms w) : Calls Tryz.prog 6 #[.int .i64 n, .string ⟨nm.toArray⟩, .slice A m c] w (RetTrue w) := by
  have HL := Lib.hid (fun W h k => lives18_any W h k)
  by_cases h3 : 300 < nm.length
  · have d1 : decide (300 < (nm.length : Int)) = true := by simp; omega
    have d2 : decide (300 < nm.length) = true := by simp; omega
    go_enter Tryz.func6, Tryz.ntmps6
    go_wp2_with fail
    (with_reducible refine (HL.out _ ht hN).mono ?_)
    rintro e w1 ⟨rfl, hb⟩
    go_wp2_with fail
    go_ret
    exact ⟨rfl, hb⟩
  have d1 : decide (300 < (nm.length : Int)) = false := by simp; omega
  have d2 : decide (300 < nm.length) = false := by simp; omega
  by_cases h4 : 3000 < m
  · have d3 : decide (3000 < (m : Int)) = true := by simp; omega
    go_enter Tryz.func6, Tryz.ntmps6
    go_wp2_with fail
    (with_reducible refine (HL.out _ ht hN).mono ?_)
    rintro e w1 ⟨rfl, hb⟩
    go_wp2_with fail
    go_ret
    exact ⟨rfl, hb⟩
  have d3 : decide (3000 < (m : Int)) = false := by simp; omega
  have HO := Lib.hid (fun W => segOf_any nm W (by omega))
  have HF := Lib.hid (fun W => refOf18_any nm W (by omega))
  have hRR := fun W (h : Bs W A m l) => refRecord_any A m c l W (by omega) h
  have hK := fun W => refFirst18_any n W
  generalize of18 nm = onm at *
  obtain ⟨ox, ob⟩ := onm
  have hl := hB.len
  cases hr : recB l with
  | false =>
    cases hk : knownB n with
    | false =>
      have HS := Lib.hid (fun W (h : Bs W A m l) k => segRecord_no A m c l W (by omega) h k hr)
      have HH := Lib.hid (fun W => segHead_no n W hk)
      have HN1 := Lib.hid (fun W => segName_no n W hk)
      rw [hk] at hK
      rw [hr] at hRR
      have HK := Lib.hid hK
      have HR := Lib.hid hRR
      clear hK hRR hk hr
      go_enter Tryz.func6, Tryz.ntmps6
      go_wp2_with fail
      (with_reducible refine (HO.out _).mono ?_)
      rintro e w1 ⟨rfl, hb1⟩
      go_wp2_with fail
      (with_reducible refine (HF.out _).mono ?_)
      rintro e w2 ⟨rfl, hb2⟩
      have B2 := bel_step hb1 hb2
      have ht2 := ht.below B2
      clear hb1 hb2
      go_wp2_with fail
      (with_reducible refine (HH.out _).mono ?_)
      rintro e w3 ⟨rfl, hb3⟩
      have B3 := bel_step B2 hb3
      have hB3 := hB.below B3
      have ht3 := ht.below B3
      have hN3 := hN.below B3
      clear B2 hb3 ht2
      go_wp2_with fail
      (with_reducible refine (HS.out _ hB3 hN3).mono ?_)
      rintro e w4 ⟨rfl, hb4⟩
      have B4 := bel_step B3 hb4
      clear hb4 B3 hB3 ht3 hN3
      go_wp2_with fail
      refine wp_region_seq (by kernel_rfl) [(0, false), (1, true), (2, true), (3, true), (4, true), (5, true), (6, true), (7, true), (8, true), (9, true), (10, true), (11, true), (12, true), (13, true), (14, true), (15, true), (16, false), (17, true), (18, true), (19, true), (20, true), (21, false), (22, true), (23, true), (24, true), (25, true), (26, true), (27, true), (28, true), (29, true), (30, false), (31, true), (32, true), (33, true), (34, true), (35, false), (36, true), (37, true), (38, true), (39, true)] (by kernel_rfl) rfl (by kernel_rfl) ?_
      intro w5 hb5
      have B5 := bel_step B4 hb5
      have hB5 := hB.below B5
      have ht5 := ht.below B5
      have hN5 := hN.below B5
      clear hb5 B4
      refine wpSeq_exec (o := ⟨_, _, _, _, _, _⟩) rfl rfl (fun K hK => ?_)
      go_simp
      (with_reducible refine (HL.out w5 ht5 hN5).mono ?_)
      rintro e w6 ⟨rfl, hb6⟩
      go_wp2_with fail
      refine hK _ _ hb6 ?_
      clear hK K
      have B6 := bel_step B5 hb6
      have hB6 := hB.below B6
      clear hb6 B5 ht5 hN5 hB5
      iterate 15 (refine wpSeq_take (o := ⟨_, _, _, _, _, _⟩) (v := ?_) rfl rfl ?_ ?_; rotate_left; (focus (intro W hW; go_simp; first | done | with_reducible rfl)); simp only [Act.put, List.setIfInBounds_toArray, List.set_cons_zero, List.set_cons_succ])
      refine wpSeq_exec (o := ⟨_, _, _, _, _, _⟩) rfl rfl (fun K hK => ?_)
      go_simp
      (with_reducible refine (HR.out w6 hB6).mono ?_)
      rintro e w7 ⟨rfl, hb7⟩
      go_wp2_with fail
      refine hK _ _ hb7 ?_
      clear hK K
      have B7 := bel_step B6 hb7
      have hB7 := hB.below B7
      clear hb7 B6 hB6
      iterate 4 (refine wpSeq_take (o := ⟨_, _, _, _, _, _⟩) (v := ?_) rfl rfl ?_ ?_; rotate_left; (focus (intro W hW; go_simp; first | done | with_reducible rfl)); simp only [Act.put, List.setIfInBounds_toArray, List.set_cons_zero, List.set_cons_succ])
      refine wpSeq_exec (o := ⟨_, _, _, _, _, _⟩) rfl rfl (fun K hK => ?_)
      go_simp
      (with_reducible refine (HR.out w7 hB7).mono ?_)
      rintro e w8 ⟨rfl, hb8⟩
      go_wp2_with fail
      refine hK _ _ hb8 ?_
      clear hK K
      have B8 := bel_step B7 hb8
      have hB8 := hB.below B8
      clear hb8 B7 hB7
      iterate 8 (refine wpSeq_take (o := ⟨_, _, _, _, _, _⟩) (v := ?_) rfl rfl ?_ ?_; rotate_left; (focus (intro W hW; go_simp; first | done | with_reducible rfl)); simp only [Act.put, List.setIfInBounds_toArray, List.set_cons_zero, List.set_cons_succ])
      refine wpSeq_exec (o := ⟨_, _, _, _, _, _⟩) rfl rfl (fun K hK => ?_)
      go_simp
      (with_reducible refine (HR.out w8 hB8).mono ?_)
      rintro e w9 ⟨rfl, hb9⟩
      go_wp2_with fail
      refine hK _ _ hb9 ?_
      clear hK K
      have B9 := bel_step B8 hb9
      have hB9 := hB.below B9
      clear hb9 B8 hB8
      iterate 1 (refine wpSeq_take (o := ⟨_, _, _, _, _, _⟩) (v := ?_) rfl rfl ?_ ?_; rotate_left; (focus (intro W hW; go_simp; first | done | with_reducible rfl)); simp only [Act.put, List.setIfInBounds_toArray, List.set_cons_zero, List.set_cons_succ])
      iterate 3 (refine wpSeq_skip (o := ⟨_, _, _, _, _, _⟩) rfl rfl ?_; simp only [Act.put, List.setIfInBounds_toArray, List.set_cons_zero, List.set_cons_succ])
      (refine wpSeq_none (o := ⟨_, _, _, _, _, _⟩) rfl rfl ?_; simp only [Act.put, List.setIfInBounds_toArray, List.set_cons_zero, List.set_cons_succ])
      iterate 2 (refine wpSeq_skip (o := ⟨_, _, _, _, _, _⟩) rfl rfl ?_; simp only [Act.put, List.setIfInBounds_toArray, List.set_cons_zero, List.set_cons_succ])
      iterate 2 (refine wpSeq_take (o := ⟨_, _, _, _, _, _⟩) (v := ?_) rfl rfl ?_ ?_; rotate_left; (focus (intro W hW; go_simp; first | done | with_reducible rfl)); simp only [Act.put, List.setIfInBounds_toArray, List.set_cons_zero, List.set_cons_succ])
      have Ba := B9
      obtain ⟨wa, hwa⟩ : ∃ wa, wa = w9 := ⟨_, rfl⟩
      subst hwa
      clear B9 hB9
      refine wpSeq_nil ?_
      go_wp2_with fail
      (with_reducible refine (HK.out _).mono ?_)
      rintro e wb ⟨rfl, rfl⟩
      go_wp2_with fail
      (with_reducible refine (HN1.out _).mono ?_)
      rintro e wc ⟨rfl, hbc⟩
      go_wp2_with fail
      go_ret
      exact ⟨by simp, bel_step Ba hbc⟩
    | true =>
      have HS := Lib.hid (fun W (h : Bs W A m l) k => segRecord_no A m c l W (by omega) h k hr)
      have HH := Lib.hid (fun W k => segHead_yes n W hk k)
      have HH2 := Lib.hid (fun W => refHead18_any n W hk)
      obtain ⟨z, hz1, hz2, hz3⟩ : ∃ z : Nat, n = (z : Int) ∧ 1 ≤ z ∧ z ≤ 2048 := by
        unfold knownB at hk
        simp at hk
        exact ⟨n.toNat, by omega, by omega, by omega⟩
      generalize headL18 n = hl18 at *
      subst hz1
      have HN1 := Lib.hid (fun W => segName_any z W hz2 hz3)
      have HN2 := Lib.hid (fun W => refName18_any z W hz3)
      have HO2 := Lib.hid (fun W => segOf_any (nm18 z) W (by simp [nm18]))
      rw [of_hit hz2 hz3 rfl] at HO2
      generalize nm18 z = zn at *
      rw [hk] at hK
      rw [hr] at hRR
      have HK := Lib.hid hK
      have HR := Lib.hid hRR
      clear hK hRR hk hr
      go_enter Tryz.func6, Tryz.ntmps6
      go_wp2_with fail
      (with_reducible refine (HO.out _).mono ?_)
      rintro e w1 ⟨rfl, hb1⟩
      go_wp2_with fail
      (with_reducible refine (HF.out _).mono ?_)
      rintro e w2 ⟨rfl, hb2⟩
      have B2 := bel_step hb1 hb2
      have ht2 := ht.below B2
      clear hb1 hb2
      go_wp2_with fail
      (with_reducible refine (HH.out _ ht2).mono ?_)
      rintro e w3 ⟨A3, n3, c3, rfl, ho3, hb3⟩
      have B3 := bel_step B2 hb3
      have hB3 := hB.below B3
      have ht3 := ht.below B3
      have hN3 := hN.below B3
      clear B2 hb3 ht2
      go_wp2_with fail
      (with_reducible refine (HS.out _ hB3 hN3).mono ?_)
      rintro e w4 ⟨rfl, hb4⟩
      have B4 := bel_step B3 hb4
      have p4 := ho3.bs.below hb4
      clear hb4 B3 hB3 ht3 hN3
      go_wp2_with fail
      refine wp_region_seq (by kernel_rfl) [(0, false), (1, true), (2, true), (3, true), (4, true), (5, true), (6, true), (7, true), (8, true), (9, true), (10, true), (11, true), (12, true), (13, true), (14, true), (15, true), (16, false), (17, true), (18, true), (19, true), (20, true), (21, false), (22, true), (23, true), (24, true), (25, true), (26, true), (27, true), (28, true), (29, true), (30, false), (31, true), (32, true), (33, true), (34, true), (35, false), (36, true), (37, true), (38, true), (39, true)] (by kernel_rfl) rfl (by kernel_rfl) ?_
      intro w5 hb5
      have B5 := bel_step B4 hb5
      have hB5 := hB.below B5
      have ht5 := ht.below B5
      have hN5 := hN.below B5
      have p5 := p4.below hb5
      clear hb5 B4
      refine wpSeq_exec (o := ⟨_, _, _, _, _, _⟩) rfl rfl (fun K hK => ?_)
      go_simp
      (with_reducible refine (HL.out w5 ht5 hN5).mono ?_)
      rintro e w6 ⟨rfl, hb6⟩
      go_wp2_with fail
      refine hK _ _ hb6 ?_
      clear hK K
      have B6 := bel_step B5 hb6
      have hB6 := hB.below B6
      have p6 := p5.below hb6
      clear hb6 B5 ht5 hN5 hB5
      iterate 15 (refine wpSeq_take (o := ⟨_, _, _, _, _, _⟩) (v := ?_) rfl rfl ?_ ?_; rotate_left; (focus (intro W hW; go_simp; first | done | with_reducible rfl)); simp only [Act.put, List.setIfInBounds_toArray, List.set_cons_zero, List.set_cons_succ])
      refine wpSeq_exec (o := ⟨_, _, _, _, _, _⟩) rfl rfl (fun K hK => ?_)
      go_simp
      (with_reducible refine (HR.out w6 hB6).mono ?_)
      rintro e w7 ⟨rfl, hb7⟩
      go_wp2_with fail
      refine hK _ _ hb7 ?_
      clear hK K
      have B7 := bel_step B6 hb7
      have hB7 := hB.below B7
      have p7 := p6.below hb7
      clear hb7 B6 hB6
      iterate 4 (refine wpSeq_take (o := ⟨_, _, _, _, _, _⟩) (v := ?_) rfl rfl ?_ ?_; rotate_left; (focus (intro W hW; go_simp; first | done | with_reducible rfl)); simp only [Act.put, List.setIfInBounds_toArray, List.set_cons_zero, List.set_cons_succ])
      refine wpSeq_exec (o := ⟨_, _, _, _, _, _⟩) rfl rfl (fun K hK => ?_)
      go_simp
      (with_reducible refine (HR.out w7 hB7).mono ?_)
      rintro e w8 ⟨rfl, hb8⟩
      go_wp2_with fail
      refine hK _ _ hb8 ?_
      clear hK K
      have B8 := bel_step B7 hb8
      have hB8 := hB.below B8
      have p8 := p7.below hb8
      clear hb8 B7 hB7
      iterate 8 (refine wpSeq_take (o := ⟨_, _, _, _, _, _⟩) (v := ?_) rfl rfl ?_ ?_; rotate_left; (focus (intro W hW; go_simp; first | done | with_reducible rfl)); simp only [Act.put, List.setIfInBounds_toArray, List.set_cons_zero, List.set_cons_succ])
      refine wpSeq_exec (o := ⟨_, _, _, _, _, _⟩) rfl rfl (fun K hK => ?_)
      go_simp
      (with_reducible refine (HR.out w8 hB8).mono ?_)
      rintro e w9 ⟨rfl, hb9⟩
      go_wp2_with fail
      refine hK _ _ hb9 ?_
      clear hK K
      have B9 := bel_step B8 hb9
      have hB9 := hB.below B9
      have p9 := p8.below hb9
      clear hb9 B8 hB8
      iterate 1 (refine wpSeq_take (o := ⟨_, _, _, _, _, _⟩) (v := ?_) rfl rfl ?_ ?_; rotate_left; (focus (intro W hW; go_simp; first | done | with_reducible rfl)); simp only [Act.put, List.setIfInBounds_toArray, List.set_cons_zero, List.set_cons_succ])
      iterate 3 (refine wpSeq_skip (o := ⟨_, _, _, _, _, _⟩) rfl rfl ?_; simp only [Act.put, List.setIfInBounds_toArray, List.set_cons_zero, List.set_cons_succ])
      (refine wpSeq_none (o := ⟨_, _, _, _, _, _⟩) rfl rfl ?_; simp only [Act.put, List.setIfInBounds_toArray, List.set_cons_zero, List.set_cons_succ])
      iterate 2 (refine wpSeq_skip (o := ⟨_, _, _, _, _, _⟩) rfl rfl ?_; simp only [Act.put, List.setIfInBounds_toArray, List.set_cons_zero, List.set_cons_succ])
      iterate 2 (refine wpSeq_take (o := ⟨_, _, _, _, _, _⟩) (v := ?_) rfl rfl ?_ ?_; rotate_left; (focus (intro W hW; go_simp; first | done | with_reducible rfl)); simp only [Act.put, List.setIfInBounds_toArray, List.set_cons_zero, List.set_cons_succ])
      have Ba := B9
      obtain ⟨wa, hwa⟩ : ∃ wa, wa = w9 := ⟨_, rfl⟩
      subst hwa
      have pa := p9
      clear B9 hB9
      refine wpSeq_nil ?_
      go_wp2_with fail
      (with_reducible refine (HK.out _).mono ?_)
      rintro e wb ⟨rfl, rfl⟩
      go_wp2_with fail
      (with_reducible refine (HN1.out _).mono ?_)
      rintro e wc ⟨rfl, hbc⟩
      go_wp2_with fail
      (with_reducible refine (HO2.out _).mono ?_)
      rintro e wd ⟨rfl, hbd⟩
      have Bd := bel_step Ba (bel_step hbc hbd)
      have pd := pa.below (bel_step hbc hbd)
      clear hbc hbd pa Ba
      go_wp2_with fail
      refine wp_region_seq (by kernel_rfl) [(0, true), (1, true), (2, true), (3, true), (4, true), (5, true), (6, false), (7, true), (8, true), (9, true), (10, true), (11, true), (13, true), (12, false), (14, false), (15, true), (16, true), (17, true), (18, true), (19, true), (20, true), (21, true), (22, true), (23, true), (24, true), (25, true)] (by kernel_rfl) rfl (by kernel_rfl) ?_
      intro we hbe
      have Be := bel_step Bd hbe
      have pe := pd.below hbe
      have ks := fun W (hb : Below we.heap.size we W) => (pe.below hb).str (P := Tryz.prog) 22 9 5 c3 Tryz.underlying22 Tryz.underlying5 Tryz.underlying9
      clear hbe Bd pd
      iterate 6 (refine wpSeq_take (o := ⟨_, _, _, _, _, _⟩) (v := ?_) rfl rfl ?_ ?_; rotate_left; (focus (intro W hW; go_simp; first | done | with_reducible rfl)); simp only [Act.put, List.setIfInBounds_toArray, List.set_cons_zero, List.set_cons_succ])
      refine wpSeq_exec (o := ⟨_, _, _, _, _, _⟩) rfl rfl (fun K hK => ?_)
      go_simp
      (with_reducible refine (HH2.out we).mono ?_)
      rintro e wf ⟨Af, nf, cf, rfl, hof, hbf⟩
      go_wp2_with fail
      refine hK _ _ hbf ?_
      clear hK K
      have Bf := bel_step Be hbf
      have trf : ∀ W, Below wf.heap.size wf W → Below we.heap.size we W := fun W h => bel_step hbf h
      have qf := hof.bs
      have ks2 := fun W (hb : Below wf.heap.size wf W) => (qf.below hb).str (P := Tryz.prog) 22 9 5 cf Tryz.underlying22 Tryz.underlying5 Tryz.underlying9
      iterate 6 (refine wpSeq_take (o := ⟨_, _, _, _, _, _⟩) (v := ?_) rfl rfl ?_ ?_; rotate_left; (focus (intro W hW; go_simp; first | done | with_reducible rfl)); simp only [Act.put, List.setIfInBounds_toArray, List.set_cons_zero, List.set_cons_succ])
      clear trf ks ks2 qf hbf Be hof pe
      refine wpSeq_exec (o := ⟨_, _, _, _, _, _⟩) rfl rfl (fun K hK => ?_)
      go_simp
      (with_reducible refine (HN1.out wf).mono ?_)
      rintro e wg ⟨rfl, hbg⟩
      go_wp2_with fail
      refine hK _ _ hbg ?_
      clear hK K
      refine wpSeq_exec (o := ⟨_, _, _, _, _, _⟩) rfl rfl (fun K hK => ?_)
      go_simp
      (with_reducible refine (HN2.out wg).mono ?_)
      rintro e wh ⟨rfl, hbh⟩
      go_wp2_with fail
      refine hK _ _ hbh ?_
      clear hK K
      iterate 11 (refine wpSeq_take (o := ⟨_, _, _, _, _, _⟩) (v := ?_) rfl rfl ?_ ?_; rotate_left; (focus (intro W hW; go_simp; first | done | with_reducible rfl)); simp only [Act.put, List.setIfInBounds_toArray, List.set_cons_zero, List.set_cons_succ])
      refine wpSeq_nil ?_
      go_wp2_with fail
      go_ret
      exact ⟨by simp, bel_step Bf (bel_step hbg hbh)⟩
  | true =>
    cases hk : knownB n with
    | false =>
      have HS := Lib.hid (fun W (h : Bs W A m l) k k2 => segRecord_yes A m c l W (by omega) h k k2 hr)
      have HU := Lib.hid (fun W (h : Bs W A m l) => refPut17_any A m c l W (by omega) h)
      generalize frameL l = fl at *
      have HH := Lib.hid (fun W => segHead_no n W hk)
      have HN1 := Lib.hid (fun W => segName_no n W hk)
      rw [hk] at hK
      rw [hr] at hRR
      have HK := Lib.hid hK
      have HR := Lib.hid hRR
      clear hK hRR hk hr
      go_enter Tryz.func6, Tryz.ntmps6
      go_wp2_with fail
      (with_reducible refine (HO.out _).mono ?_)
      rintro e w1 ⟨rfl, hb1⟩
      go_wp2_with fail
      (with_reducible refine (HF.out _).mono ?_)
      rintro e w2 ⟨rfl, hb2⟩
      have B2 := bel_step hb1 hb2
      have ht2 := ht.below B2
      clear hb1 hb2
      go_wp2_with fail
      (with_reducible refine (HH.out _).mono ?_)
      rintro e w3 ⟨rfl, hb3⟩
      have B3 := bel_step B2 hb3
      have hB3 := hB.below B3
      have ht3 := ht.below B3
      have hN3 := hN.below B3
      clear B2 hb3 ht2
      go_wp2_with fail
      (with_reducible refine (HS.out _ hB3 hN3 ht3).mono ?_)
      rintro e w4 ⟨A4, n4, c4, rfl, ho4, hb4⟩
      have q4 := ho4.bs
      have B4 := bel_step B3 hb4
      clear hb4 B3 hB3 ht3 hN3
      go_wp2_with fail
      refine wp_region_seq (by kernel_rfl) [(0, false), (1, true), (2, true), (3, true), (4, true), (5, true), (6, true), (7, true), (8, true), (9, true), (10, true), (11, true), (12, true), (13, true), (14, true), (15, true), (16, false), (17, true), (18, true), (19, true), (20, true), (21, false), (22, true), (23, true), (24, true), (25, true), (26, true), (27, true), (28, true), (29, true), (30, false), (31, true), (32, true), (33, true), (34, true), (35, false), (36, true), (37, true), (38, true), (39, true)] (by kernel_rfl) rfl (by kernel_rfl) ?_
      intro w5 hb5
      have B5 := bel_step B4 hb5
      have hB5 := hB.below B5
      have ht5 := ht.below B5
      have hN5 := hN.below B5
      have q5 := q4.below hb5
      clear hb5 B4
      refine wpSeq_exec (o := ⟨_, _, _, _, _, _⟩) rfl rfl (fun K hK => ?_)
      go_simp
      (with_reducible refine (HL.out w5 ht5 hN5).mono ?_)
      rintro e w6 ⟨rfl, hb6⟩
      go_wp2_with fail
      refine hK _ _ hb6 ?_
      clear hK K
      have B6 := bel_step B5 hb6
      have hB6 := hB.below B6
      have q6 := q5.below hb6
      clear hb6 B5 ht5 hN5 hB5
      iterate 15 (refine wpSeq_take (o := ⟨_, _, _, _, _, _⟩) (v := ?_) rfl rfl ?_ ?_; rotate_left; (focus (intro W hW; go_simp; first | done | with_reducible rfl)); simp only [Act.put, List.setIfInBounds_toArray, List.set_cons_zero, List.set_cons_succ])
      refine wpSeq_exec (o := ⟨_, _, _, _, _, _⟩) rfl rfl (fun K hK => ?_)
      go_simp
      (with_reducible refine (HR.out w6 hB6).mono ?_)
      rintro e w7 ⟨rfl, hb7⟩
      go_wp2_with fail
      refine hK _ _ hb7 ?_
      clear hK K
      have B7 := bel_step B6 hb7
      have hB7 := hB.below B7
      have q7 := q6.below hb7
      clear hb7 B6 hB6
      iterate 4 (refine wpSeq_take (o := ⟨_, _, _, _, _, _⟩) (v := ?_) rfl rfl ?_ ?_; rotate_left; (focus (intro W hW; go_simp; first | done | with_reducible rfl)); simp only [Act.put, List.setIfInBounds_toArray, List.set_cons_zero, List.set_cons_succ])
      refine wpSeq_exec (o := ⟨_, _, _, _, _, _⟩) rfl rfl (fun K hK => ?_)
      go_simp
      (with_reducible refine (HR.out w7 hB7).mono ?_)
      rintro e w8 ⟨rfl, hb8⟩
      go_wp2_with fail
      refine hK _ _ hb8 ?_
      clear hK K
      have B8 := bel_step B7 hb8
      have hB8 := hB.below B8
      have q8 := q7.below hb8
      clear hb8 B7 hB7
      iterate 2 (refine wpSeq_take (o := ⟨_, _, _, _, _, _⟩) (v := ?_) rfl rfl ?_ ?_; rotate_left; (focus (intro W hW; go_simp; first | done | with_reducible rfl)); simp only [Act.put, List.setIfInBounds_toArray, List.set_cons_zero, List.set_cons_succ])
      iterate 2 (refine wpSeq_skip (o := ⟨_, _, _, _, _, _⟩) rfl rfl ?_; simp only [Act.put, List.setIfInBounds_toArray, List.set_cons_zero, List.set_cons_succ])
      iterate 4 (refine wpSeq_take (o := ⟨_, _, _, _, _, _⟩) (v := ?_) rfl rfl ?_ ?_; rotate_left; (focus (intro W hW; go_simp; first | done | with_reducible rfl)); simp only [Act.put, List.setIfInBounds_toArray, List.set_cons_zero, List.set_cons_succ])
      refine wpSeq_exec (o := ⟨_, _, _, _, _, _⟩) rfl rfl (fun K hK => ?_)
      go_simp
      (with_reducible refine (HR.out w8 hB8).mono ?_)
      rintro e w9 ⟨rfl, hb9⟩
      go_wp2_with fail
      refine hK _ _ hb9 ?_
      clear hK K
      have B9 := bel_step B8 hb9
      have hB9 := hB.below B9
      have q9 := q8.below hb9
      clear hb9 B8 hB8
      have q90 := q9
      have ks := fun W (hb : Below w9.heap.size w9 W) => (q90.below hb).str (P := Tryz.prog) 22 9 5 c4 Tryz.underlying22 Tryz.underlying5 Tryz.underlying9
      iterate 4 (refine wpSeq_take (o := ⟨_, _, _, _, _, _⟩) (v := ?_) rfl rfl ?_ ?_; rotate_left; (focus (intro W hW; go_simp; first | done | with_reducible rfl)); simp only [Act.put, List.setIfInBounds_toArray, List.set_cons_zero, List.set_cons_succ])
      refine wpSeq_exec (o := ⟨_, _, _, _, _, _⟩) rfl rfl (fun K hK => ?_)
      go_simp
      (with_reducible refine (HU.out w9 hB9).mono ?_)
      rintro e wa ⟨Aa, na, ca, rfl, hoa, hba⟩
      go_wp2_with fail
      refine hK _ _ hba ?_
      clear hK K
      have Ba := bel_step B9 hba
      have tra : ∀ W, Below wa.heap.size wa W → Below w9.heap.size w9 W := fun W h => bel_step hba h
      have qa := hoa.bs
      have ks2 := fun W (hb : Below wa.heap.size wa W) => (qa.below hb).str (P := Tryz.prog) 22 9 5 ca Tryz.underlying22 Tryz.underlying5 Tryz.underlying9
      iterate 4 (refine wpSeq_take (o := ⟨_, _, _, _, _, _⟩) (v := ?_) rfl rfl ?_ ?_; rotate_left; (focus (intro W hW; go_simp; first | done | with_reducible rfl)); simp only [Act.put, List.setIfInBounds_toArray, List.set_cons_zero, List.set_cons_succ])
      clear tra ks ks2 qa hba B9 hB9 q9 q90 hoa
      refine wpSeq_nil ?_
      go_wp2_with fail
      (with_reducible refine (HK.out _).mono ?_)
      rintro e wb ⟨rfl, rfl⟩
      go_wp2_with fail
      (with_reducible refine (HN1.out _).mono ?_)
      rintro e wc ⟨rfl, hbc⟩
      go_wp2_with fail
      go_ret
      exact ⟨by simp, bel_step Ba hbc⟩
    | true =>
      have HS := Lib.hid (fun W (h : Bs W A m l) k k2 => segRecord_yes A m c l W (by omega) h k k2 hr)
      have HU := Lib.hid (fun W (h : Bs W A m l) => refPut17_any A m c l W (by omega) h)
      generalize frameL l = fl at *
      have HH := Lib.hid (fun W k => segHead_yes n W hk k)
      have HH2 := Lib.hid (fun W => refHead18_any n W hk)
      obtain ⟨z, hz1, hz2, hz3⟩ : ∃ z : Nat, n = (z : Int) ∧ 1 ≤ z ∧ z ≤ 2048 := by
        unfold knownB at hk
        simp at hk
        exact ⟨n.toNat, by omega, by omega, by omega⟩
      generalize headL18 n = hl18 at *
      subst hz1
      have HN1 := Lib.hid (fun W => segName_any z W hz2 hz3)
      have HN2 := Lib.hid (fun W => refName18_any z W hz3)
      have HO2 := Lib.hid (fun W => segOf_any (nm18 z) W (by simp [nm18]))
      rw [of_hit hz2 hz3 rfl] at HO2
      generalize nm18 z = zn at *
      rw [hk] at hK
      rw [hr] at hRR
      have HK := Lib.hid hK
      have HR := Lib.hid hRR
      clear hK hRR hk hr
      go_enter Tryz.func6, Tryz.ntmps6
      go_wp2_with fail
      (with_reducible refine (HO.out _).mono ?_)
      rintro e w1 ⟨rfl, hb1⟩
      go_wp2_with fail
      (with_reducible refine (HF.out _).mono ?_)
      rintro e w2 ⟨rfl, hb2⟩
      have B2 := bel_step hb1 hb2
      have ht2 := ht.below B2
      clear hb1 hb2
      go_wp2_with fail
      (with_reducible refine (HH.out _ ht2).mono ?_)
      rintro e w3 ⟨A3, n3, c3, rfl, ho3, hb3⟩
      have B3 := bel_step B2 hb3
      have hB3 := hB.below B3
      have ht3 := ht.below B3
      have hN3 := hN.below B3
      clear B2 hb3 ht2
      go_wp2_with fail
      (with_reducible refine (HS.out _ hB3 hN3 ht3).mono ?_)
      rintro e w4 ⟨A4, n4, c4, rfl, ho4, hb4⟩
      have q4 := ho4.bs
      have B4 := bel_step B3 hb4
      have p4 := ho3.bs.below hb4
      clear hb4 B3 hB3 ht3 hN3
      go_wp2_with fail
      refine wp_region_seq (by kernel_rfl) [(0, false), (1, true), (2, true), (3, true), (4, true), (5, true), (6, true), (7, true), (8, true), (9, true), (10, true), (11, true), (12, true), (13, true), (14, true), (15, true), (16, false), (17, true), (18, true), (19, true), (20, true), (21, false), (22, true), (23, true), (24, true), (25, true), (26, true), (27, true), (28, true), (29, true), (30, false), (31, true), (32, true), (33, true), (34, true), (35, false), (36, true), (37, true), (38, true), (39, true)] (by kernel_rfl) rfl (by kernel_rfl) ?_
      intro w5 hb5
      have B5 := bel_step B4 hb5
      have hB5 := hB.below B5
      have ht5 := ht.below B5
      have hN5 := hN.below B5
      have q5 := q4.below hb5
      have p5 := p4.below hb5
      clear hb5 B4
      refine wpSeq_exec (o := ⟨_, _, _, _, _, _⟩) rfl rfl (fun K hK => ?_)
      go_simp
      (with_reducible refine (HL.out w5 ht5 hN5).mono ?_)
      rintro e w6 ⟨rfl, hb6⟩
      go_wp2_with fail
      refine hK _ _ hb6 ?_
      clear hK K
      have B6 := bel_step B5 hb6
      have hB6 := hB.below B6
      have q6 := q5.below hb6
      have p6 := p5.below hb6
      clear hb6 B5 ht5 hN5 hB5
      iterate 15 (refine wpSeq_take (o := ⟨_, _, _, _, _, _⟩) (v := ?_) rfl rfl ?_ ?_; rotate_left; (focus (intro W hW; go_simp; first | done | with_reducible rfl)); simp only [Act.put, List.setIfInBounds_toArray, List.set_cons_zero, List.set_cons_succ])
      refine wpSeq_exec (o := ⟨_, _, _, _, _, _⟩) rfl rfl (fun K hK => ?_)
      go_simp
      (with_reducible refine (HR.out w6 hB6).mono ?_)
      rintro e w7 ⟨rfl, hb7⟩
      go_wp2_with fail
      refine hK _ _ hb7 ?_
      clear hK K
      have B7 := bel_step B6 hb7
      have hB7 := hB.below B7
      have q7 := q6.below hb7
      have p7 := p6.below hb7
      clear hb7 B6 hB6
      iterate 4 (refine wpSeq_take (o := ⟨_, _, _, _, _, _⟩) (v := ?_) rfl rfl ?_ ?_; rotate_left; (focus (intro W hW; go_simp; first | done | with_reducible rfl)); simp only [Act.put, List.setIfInBounds_toArray, List.set_cons_zero, List.set_cons_succ])
      refine wpSeq_exec (o := ⟨_, _, _, _, _, _⟩) rfl rfl (fun K hK => ?_)
      go_simp
      (with_reducible refine (HR.out w7 hB7).mono ?_)
      rintro e w8 ⟨rfl, hb8⟩
      go_wp2_with fail
      refine hK _ _ hb8 ?_
      clear hK K
      have B8 := bel_step B7 hb8
      have hB8 := hB.below B8
      have q8 := q7.below hb8
      have p8 := p7.below hb8
      clear hb8 B7 hB7
      iterate 2 (refine wpSeq_take (o := ⟨_, _, _, _, _, _⟩) (v := ?_) rfl rfl ?_ ?_; rotate_left; (focus (intro W hW; go_simp; first | done | with_reducible rfl)); simp only [Act.put, List.setIfInBounds_toArray, List.set_cons_zero, List.set_cons_succ])
      iterate 2 (refine wpSeq_skip (o := ⟨_, _, _, _, _, _⟩) rfl rfl ?_; simp only [Act.put, List.setIfInBounds_toArray, List.set_cons_zero, List.set_cons_succ])
      iterate 4 (refine wpSeq_take (o := ⟨_, _, _, _, _, _⟩) (v := ?_) rfl rfl ?_ ?_; rotate_left; (focus (intro W hW; go_simp; first | done | with_reducible rfl)); simp only [Act.put, List.setIfInBounds_toArray, List.set_cons_zero, List.set_cons_succ])
      refine wpSeq_exec (o := ⟨_, _, _, _, _, _⟩) rfl rfl (fun K hK => ?_)
      go_simp
      (with_reducible refine (HR.out w8 hB8).mono ?_)
      rintro e w9 ⟨rfl, hb9⟩
      go_wp2_with fail
      refine hK _ _ hb9 ?_
      clear hK K
      have B9 := bel_step B8 hb9
      have hB9 := hB.below B9
      have q9 := q8.below hb9
      have p9 := p8.below hb9
      clear hb9 B8 hB8
      have q90 := q9
      have ks := fun W (hb : Below w9.heap.size w9 W) => (q90.below hb).str (P := Tryz.prog) 22 9 5 c4 Tryz.underlying22 Tryz.underlying5 Tryz.underlying9
      iterate 4 (refine wpSeq_take (o := ⟨_, _, _, _, _, _⟩) (v := ?_) rfl rfl ?_ ?_; rotate_left; (focus (intro W hW; go_simp; first | done | with_reducible rfl)); simp only [Act.put, List.setIfInBounds_toArray, List.set_cons_zero, List.set_cons_succ])
      refine wpSeq_exec (o := ⟨_, _, _, _, _, _⟩) rfl rfl (fun K hK => ?_)
      go_simp
      (with_reducible refine (HU.out w9 hB9).mono ?_)
      rintro e wa ⟨Aa, na, ca, rfl, hoa, hba⟩
      go_wp2_with fail
      refine hK _ _ hba ?_
      clear hK K
      have Ba := bel_step B9 hba
      have tra : ∀ W, Below wa.heap.size wa W → Below w9.heap.size w9 W := fun W h => bel_step hba h
      have qa := hoa.bs
      have ks2 := fun W (hb : Below wa.heap.size wa W) => (qa.below hb).str (P := Tryz.prog) 22 9 5 ca Tryz.underlying22 Tryz.underlying5 Tryz.underlying9
      have pa := p9.below hba
      iterate 4 (refine wpSeq_take (o := ⟨_, _, _, _, _, _⟩) (v := ?_) rfl rfl ?_ ?_; rotate_left; (focus (intro W hW; go_simp; first | done | with_reducible rfl)); simp only [Act.put, List.setIfInBounds_toArray, List.set_cons_zero, List.set_cons_succ])
      clear tra ks ks2 qa hba B9 hB9 q9 q90 hoa
      refine wpSeq_nil ?_
      go_wp2_with fail
      (with_reducible refine (HK.out _).mono ?_)
      rintro e wb ⟨rfl, rfl⟩
      go_wp2_with fail
      (with_reducible refine (HN1.out _).mono ?_)
      rintro e wc ⟨rfl, hbc⟩
      go_wp2_with fail
      (with_reducible refine (HO2.out _).mono ?_)
      rintro e wd ⟨rfl, hbd⟩
      have Bd := bel_step Ba (bel_step hbc hbd)
      have pd := pa.below (bel_step hbc hbd)
      clear hbc hbd pa Ba
      go_wp2_with fail
      refine wp_region_seq (by kernel_rfl) [(0, true), (1, true), (2, true), (3, true), (4, true), (5, true), (6, false), (7, true), (8, true), (9, true), (10, true), (11, true), (13, true), (12, false), (14, false), (15, true), (16, true), (17, true), (18, true), (19, true), (20, true), (21, true), (22, true), (23, true), (24, true), (25, true)] (by kernel_rfl) rfl (by kernel_rfl) ?_
      intro we hbe
      have Be := bel_step Bd hbe
      have pe := pd.below hbe
      have ks := fun W (hb : Below we.heap.size we W) => (pe.below hb).str (P := Tryz.prog) 22 9 5 c3 Tryz.underlying22 Tryz.underlying5 Tryz.underlying9
      clear hbe Bd pd
      iterate 6 (refine wpSeq_take (o := ⟨_, _, _, _, _, _⟩) (v := ?_) rfl rfl ?_ ?_; rotate_left; (focus (intro W hW; go_simp; first | done | with_reducible rfl)); simp only [Act.put, List.setIfInBounds_toArray, List.set_cons_zero, List.set_cons_succ])
      refine wpSeq_exec (o := ⟨_, _, _, _, _, _⟩) rfl rfl (fun K hK => ?_)
      go_simp
      (with_reducible refine (HH2.out we).mono ?_)
      rintro e wf ⟨Af, nf, cf, rfl, hof, hbf⟩
      go_wp2_with fail
      refine hK _ _ hbf ?_
      clear hK K
      have Bf := bel_step Be hbf
      have trf : ∀ W, Below wf.heap.size wf W → Below we.heap.size we W := fun W h => bel_step hbf h
      have qf := hof.bs
      have ks2 := fun W (hb : Below wf.heap.size wf W) => (qf.below hb).str (P := Tryz.prog) 22 9 5 cf Tryz.underlying22 Tryz.underlying5 Tryz.underlying9
      iterate 6 (refine wpSeq_take (o := ⟨_, _, _, _, _, _⟩) (v := ?_) rfl rfl ?_ ?_; rotate_left; (focus (intro W hW; go_simp; first | done | with_reducible rfl)); simp only [Act.put, List.setIfInBounds_toArray, List.set_cons_zero, List.set_cons_succ])
      clear trf ks ks2 qf hbf Be hof pe
      refine wpSeq_exec (o := ⟨_, _, _, _, _, _⟩) rfl rfl (fun K hK => ?_)
      go_simp
      (with_reducible refine (HN1.out wf).mono ?_)
      rintro e wg ⟨rfl, hbg⟩
      go_wp2_with fail
      refine hK _ _ hbg ?_
      clear hK K
      refine wpSeq_exec (o := ⟨_, _, _, _, _, _⟩) rfl rfl (fun K hK => ?_)
      go_simp
      (with_reducible refine (HN2.out wg).mono ?_)
      rintro e wh ⟨rfl, hbh⟩
      go_wp2_with fail
      refine hK _ _ hbh ?_
      clear hK K
      iterate 11 (refine wpSeq_take (o := ⟨_, _, _, _, _, _⟩) (v := ?_) rfl rfl ?_ ?_; rotate_left; (focus (intro W hW; go_simp; first | done | with_reducible rfl)); simp only [Act.put, List.setIfInBounds_toArray, List.set_cons_zero, List.set_cons_succ])
      refine wpSeq_nil ?_
      go_wp2_with fail
      go_ret
      exact ⟨by simp, bel_step Bf (bel_step hbg hbh)⟩
end Go.Proofs.YtfepinnfhcjopaaGreatDoor