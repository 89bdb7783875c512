/-
  The walks of the statements on feeds of the kind RSS (printed by gen_rsl.py).
-/
import Derived.Test.YtlmmiaghbommcaaGreatDoorRsK
namespace Go.Proofs.YtlmmiaghbommcaaGreatDoor
open Go.ChangeShapes Go.WideShapes Go.ChangeAt Go.Deep
open Go.RowKit Go.Nst
set_option maxRecDepth 100000
set_option linter.unusedVariables false
set_option linter.unusedSimpArgs false

theorem sm_le {n m : Nat} (h : m ≤ n) {e : Elm} (hs : SmE n e) : SmE m e := by
  obtain ⟨d, rfl⟩ : ∃ d, n = m + d := ⟨n - m, by omega⟩
  induction d with
  | zero => exact hs
  | succ d ih => exact ih (by omega) (sm_down hs)
/-- not too large: the texts are short -/
theorem Large12_any (e : Elm) (A B : Option Addr) (c d : Nat) (w : World) (S : Nat → Prop) (he : EmF w S e A c B d) :
    Calls Tryz.prog 6 #[.agg (emV e A e.ats.length c B e.kids.length d)] w fun e' w' => (∃ b, e' = .returned (.bool b) ∧ (b = false → SmE 12 e)) ∧ Below w.heap.size w w' := by
  have B0 := bel_alloc (Below.refl w.heap.size w) (.cells (emV e A e.ats.length c B e.kids.length d) 25)
  have HC := Lib.hid (show Calls Tryz.prog 19 #[.agg (emV e A e.ats.length c B e.kids.length d), .int .i64 1, .int .i64 6000] _ _ from count9_any e A B c d 1 6000 _ S (by omega) (by omega) (by omega) (em_bel he B0))
  have HP : Hid (decide (cntE e 1 6000 ≤ 0) = false → SmE 12 e) := Lib.hid (fun h => cnt_pos 12 e 1 6000 (by omega) (by omega) (Int.not_le.1 (of_decide_eq_false h)))
  obtain ⟨hc1, hc2⟩ := he.hc
  obtain ⟨hd1, hd2⟩ := he.hd
  clear he
  generalize cntE e 1 6000 = z at *
  simp only [emV] at *
  go_enter Tryz.func6, Tryz.ntmps6
  go_wp2_with fail
  (with_reducible refine (HC.out).mono ?_)
  rintro e' w2 ⟨rfl, hb2⟩
  go_wp2_with fail
  go_ret
  exact ⟨⟨_, rfl, HP.out⟩, bel_step B0 hb2⟩
set_option maxHeartbeats 16000000 in
theorem rssReads_walk (e : Elm) (A B : Option Addr) (c d : Nat) (m : Int) (w : World) (S : Nat → Prop) (he : EmF w S e A c B d) (hM : MM m w) : Calls Tryz.prog 3 #[.agg (emV e A e.ats.length c B e.kids.length d)] w (RetTrue w) := by
  have b0 := bel_alloc (Below.refl w.heap.size w) (.cells (emV e A e.ats.length c B e.kids.length d) 25)
  have HL := Lib.hid (Large12_any e A B c d _ S (em_bel he b0))
  have F0_1 := Lib.hid (em_bel he b0)
  have X0_2 := Lib.hid (Blk.new w 25 (emV e A e.ats.length c B e.kids.length d))
  have BW_3 := Lib.hid (b0)
  have MX_4 := Lib.hid (hM.keep b0)
  obtain ⟨hca, hcb⟩ := he.hc
  obtain ⟨hda, hdb⟩ := he.hd
  clear he hM b0
  simp only [emV] at HL F0_1 X0_2 BW_3 MX_4 ⊢
  go_enter Tryz.func3, Tryz.ntmps3
  go_wp2_with fail
  (with_reducible refine (HL.out).mono ?_)
  rintro _ w1 ⟨⟨b, rfl, hsm⟩, hb⟩
  have F0_5 := Lib.hid (em_bel F0_1.out hb)
  have X0_6 := Lib.hid (X0_2.out.below hb X0_2.out.lt)
  have BW_7 := Lib.hid (bel_step BW_3.out hb)
  have MX_8 := Lib.hid (MX_4.out.keep hb)
  clear F0_1 X0_2 BW_3 MX_4
  clear hb HL
  cases b with
  | true =>
    go_wp2_with fail
    (with_reducible refine (lives10_any m _ MX_8.out).mono ?_)
    rintro _ wl ⟨rfl, hbl⟩
    go_wp2_with fail
    go_ret
    exact ⟨rfl, bel_step BW_7.out hbl⟩
  | false =>
  have HSM := Lib.hid (hsm rfl)
  clear hsm
  have q0 := X0_6.out.cell 0
  have q1 := X0_6.out.cell 1
  have q2 := X0_6.out.cell 2
  have q3 := X0_6.out.cell 3
  simp at q0 q1 q2 q3
  have HC := Lib.hid (Read10_any e A B c d m _ S F0_5.out HSM.out MX_8.out)
  simp only [emV] at HC
  go_wp2_with fail
  (with_reducible refine (HC.out).mono ?_)
  rintro _ w2 h3
  obtain ⟨A3, n3, c3, rfl, hE, hn31, hn32, hb⟩ := h3
  have hbx := bel_alloc hb (.cells #[.string ⟨((readD e).getD zeroDoc).ti.toArray⟩, .string ⟨((readD e).getD zeroDoc).li.toArray⟩, .slice A3 n3 c3] 30)
  have F0_9 := Lib.hid (em_bel F0_5.out hbx)
  have X0_10 := Lib.hid (X0_6.out.below hbx X0_6.out.lt)
  have BW_11 := Lib.hid (bel_step BW_7.out hbx)
  have MX_12 := Lib.hid (MX_8.out.keep hbx)
  clear F0_5 X0_6 BW_7 MX_8
  have Da_13 := Lib.hid (hE.bel enP (bel_alloc (Below.refl w2.heap.size w2) (.cells #[.string ⟨((readD e).getD zeroDoc).ti.toArray⟩, .string ⟨((readD e).getD zeroDoc).li.toArray⟩, .slice A3 n3 c3] 30)))
  have Ya_14 := Lib.hid (Blk.new w2 30 #[.string ⟨((readD e).getD zeroDoc).ti.toArray⟩, .string ⟨((readD e).getD zeroDoc).li.toArray⟩, .slice A3 n3 c3])
  clear hE hb hbx HC q0 q1 q2 q3
  have q0 := X0_10.out.cell 0
  have q1 := X0_10.out.cell 1
  have q2 := X0_10.out.cell 2
  have q3 := X0_10.out.cell 3
  simp at q0 q1 q2 q3
  have HC := Lib.hid (refRead10_any e A B c d _ S F0_9.out HSM.out)
  simp only [emV] at HC
  go_wp2_with fail
  (with_reducible refine (HC.out).mono ?_)
  rintro _ w3 h3
  obtain ⟨A4, n4, c4, rfl, hE, hn41, hn42, hb⟩ := h3
  have hbx := bel_alloc hb (.cells #[.string ⟨((readD e).getD zeroDoc).ti.toArray⟩, .string ⟨((readD e).getD zeroDoc).li.toArray⟩, .slice A4 n4 c4] 30)
  have F0_15 := Lib.hid (em_bel F0_9.out hbx)
  have X0_16 := Lib.hid (X0_10.out.below hbx X0_10.out.lt)
  have BW_17 := Lib.hid (bel_step BW_11.out hbx)
  have MX_18 := Lib.hid (MX_12.out.keep hbx)
  have Da_19 := Lib.hid (Da_13.out.bel enP hbx)
  have Ya_20 := Lib.hid (Ya_14.out.below hbx Ya_14.out.lt)
  clear F0_9 X0_10 BW_11 MX_12 Da_13 Ya_14
  have Db_21 := Lib.hid (hE.bel enP (bel_alloc (Below.refl w3.heap.size w3) (.cells #[.string ⟨((readD e).getD zeroDoc).ti.toArray⟩, .string ⟨((readD e).getD zeroDoc).li.toArray⟩, .slice A4 n4 c4] 30)))
  have Yb_22 := Lib.hid (Blk.new w3 30 #[.string ⟨((readD e).getD zeroDoc).ti.toArray⟩, .string ⟨((readD e).getD zeroDoc).li.toArray⟩, .slice A4 n4 c4])
  clear hE hb hbx HC q0 q1 q2 q3
  have hoo : ((readD e).isSome == (readD e).isSome) = true := by simp
  go_wp2_with fail
  (with_reducible refine (lives10_any m _ MX_18.out).mono ?_)
  rintro _ w4 ⟨rfl, hb⟩
  have BW_23 := Lib.hid (bel_step BW_17.out hb)
  have MX_24 := Lib.hid (MX_18.out.keep hb)
  have Da_25 := Lib.hid (Da_19.out.bel enP hb)
  have Ya_26 := Lib.hid (Ya_20.out.below hb Ya_20.out.lt)
  have Db_27 := Lib.hid (Db_21.out.bel enP hb)
  have Yb_28 := Lib.hid (Yb_22.out.below hb Yb_22.out.lt)
  clear BW_17 MX_18 Da_19 Ya_20 Db_21 Yb_22
  clear hb
  have t0 := Ya_26.out.cell 0
  have t1 := Ya_26.out.cell 1
  have t2 := Ya_26.out.cell 2
  have u0 := Yb_28.out.cell 0
  have u1 := Yb_28.out.cell 1
  have u2 := Yb_28.out.cell 2
  simp at t0 t1 t2 u0 u1 u2
  have HC := Lib.hid (refSame10_any ((readD e).getD zeroDoc) ((readD e).getD zeroDoc) A3 A4 n3 n4 c3 c4 _ _ _ Da_25.out Db_27.out ⟨hn31, hn32⟩ ⟨hn41, hn42⟩)
  rw [show decide ((readD e).getD zeroDoc = (readD e).getD zeroDoc) = true by simp] at HC
  go_wp2_with fail
  (with_reducible refine (HC.out).mono ?_)
  rintro _ w5 ⟨rfl, hb⟩
  clear t0 t1 t2 u0 u1 u2 HC
  have BW_29 := Lib.hid (bel_step BW_23.out hb)
  have MX_30 := Lib.hid (MX_24.out.keep hb)
  have Da_31 := Lib.hid (Da_25.out.bel enP hb)
  have Ya_32 := Lib.hid (Ya_26.out.below hb Ya_26.out.lt)
  have Db_33 := Lib.hid (Db_27.out.bel enP hb)
  have Yb_34 := Lib.hid (Yb_28.out.below hb Yb_28.out.lt)
  clear BW_23 MX_24 Da_25 Ya_26 Db_27 Yb_28
  clear hb
  have t0 := Ya_32.out.cell 0
  have t1 := Ya_32.out.cell 1
  have t2 := Ya_32.out.cell 2
  have u0 := Yb_34.out.cell 0
  have u1 := Yb_34.out.cell 1
  have u2 := Yb_34.out.cell 2
  simp at t0 t1 t2 u0 u1 u2
  have HC := Lib.hid (Same10_any ((readD e).getD zeroDoc) ((readD e).getD zeroDoc) A3 A4 n3 n4 c3 c4 _ _ _ Da_31.out Db_33.out ⟨hn31, hn32⟩ ⟨hn41, hn42⟩)
  rw [show decide ((readD e).getD zeroDoc = (readD e).getD zeroDoc) = true by simp] at HC
  go_wp2_with fail
  (with_reducible refine (HC.out).mono ?_)
  rintro _ w6 ⟨rfl, hb⟩
  go_wp2_with fail
  go_ret
  exact ⟨rfl, bel_step BW_29.out hb⟩
theorem ent_good {e : Elm} {x : Ent} (h : entD e = some x) : x.gu ≠ [] ∧ x.gu.length ≤ 512 ∧ x.ti.length ≤ 256 ∧ x.li.length ≤ 512 ∧ cleanT x.ti = x.ti ∧ cleanT x.gu = x.gu := by
  have hg := shortT_len (kidD e sGuid).tx 512 (by omega)
  have ht := shortT_len (kidD e sTitle).tx 256 (by omega)
  have hl := shortT_len (kidD e sLink).tx 512 (by omega)
  have ag := fun s n => (show cleanT (fieldD e s n) = fieldD e s n from cleanT_again _)
  unfold entD at h
  by_cases h0 : guidD e = []
  · rw [if_pos h0] at h; cases h
  · rw [if_neg h0] at h
    injection h with h
    have e1 : x.gu = guidD e := by rw [← h]
    have e2 : x.ti = fieldD e sTitle 256 := by rw [← h]
    have e3 : x.li = fieldD e sLink 512 := by rw [← h]
    have hc : guidD e = fieldD e sGuid 512 ∨ guidD e = fieldD e sLink 512 ∨ guidD e = fieldD e sTitle 256 := by
      unfold guidD at h0 ⊢
      generalize fieldD e sGuid 512 = a at *
      generalize fieldD e sLink 512 = b at *
      generalize fieldD e sTitle 256 = c at *
      by_cases ha : a = []
      · subst ha
        by_cases hb : b = []
        · subst hb
          by_cases hc : c = []
          · subst hc
            exact absurd rfl h0
          · simp [firstNe, hc]
        · simp [firstNe, hb]
      · simp [firstNe, ha]
    have lg : (fieldD e sGuid 512).length ≤ 512 := by unfold fieldD; omega
    have lt : (fieldD e sTitle 256).length ≤ 256 := by unfold fieldD; omega
    have ll : (fieldD e sLink 512).length ≤ 512 := by unfold fieldD; omega
    rw [e1, e2, e3]
    clear e1 e2 e3 h hg ht hl
    have a1 := ag sGuid 512
    have a2 := ag sLink 512
    have a3 := ag sTitle 256
    clear ag
    generalize guidD e = g at *
    generalize fieldD e sGuid 512 = a at *
    generalize fieldD e sLink 512 = b at *
    generalize fieldD e sTitle 256 = c at *
    refine ⟨h0, ?_, lt, ll, a3, ?_⟩
    · rcases hc with h | h | h <;> rw [h] <;> omega
    · rcases hc with h | h | h <;> rw [h] <;> assumption
set_option maxHeartbeats 16000000 in
theorem rssEntries_walk (e : Elm) (A B : Option Addr) (c d : Nat) (m : Int) (w : World) (S : Nat → Prop) (he : EmF w S e A c B d) (hM : MM m w) : Calls Tryz.prog 4 #[.agg (emV e A e.ats.length c B e.kids.length d)] w (RetTrue w) := by
  have b0 := bel_alloc (Below.refl w.heap.size w) (.cells (emV e A e.ats.length c B e.kids.length d) 25)
  have HL := Lib.hid (Large12_any e A B c d _ S (em_bel he b0))
  have F0_1 := Lib.hid (em_bel he b0)
  have X0_2 := Lib.hid (Blk.new w 25 (emV e A e.ats.length c B e.kids.length d))
  have BW_3 := Lib.hid (b0)
  have MX_4 := Lib.hid (hM.keep b0)
  obtain ⟨hca, hcb⟩ := he.hc
  obtain ⟨hda, hdb⟩ := he.hd
  clear he hM b0
  simp only [emV] at HL F0_1 X0_2 BW_3 MX_4 ⊢
  go_enter Tryz.func4, Tryz.ntmps4
  go_wp2_with fail
  (with_reducible refine (HL.out).mono ?_)
  rintro _ w1 ⟨⟨b, rfl, hsm⟩, hb⟩
  have F0_5 := Lib.hid (em_bel F0_1.out hb)
  have X0_6 := Lib.hid (X0_2.out.below hb X0_2.out.lt)
  have BW_7 := Lib.hid (bel_step BW_3.out hb)
  have MX_8 := Lib.hid (MX_4.out.keep hb)
  clear F0_1 X0_2 BW_3 MX_4
  clear hb HL
  cases b with
  | true =>
    go_wp2_with fail
    (with_reducible refine (lives10_any m _ MX_8.out).mono ?_)
    rintro _ wl ⟨rfl, hbl⟩
    go_wp2_with fail
    go_ret
    exact ⟨rfl, bel_step BW_7.out hbl⟩
  | false =>
  have HSM := Lib.hid (sm_le (show 8 ≤ 12 by omega) (hsm rfl))
  clear hsm
  have HGD := Lib.hid (fun x (h : entD e = some x) => ent_good h)
  have q0 := X0_6.out.cell 0
  have q1 := X0_6.out.cell 1
  have q2 := X0_6.out.cell 2
  have q3 := X0_6.out.cell 3
  simp at q0 q1 q2 q3
  have HC := Lib.hid ((Entry10_any e A B c d m _ S F0_5.out HSM.out MX_8.out).mono (fun e' w' h => (show e' = .returned (enT (entD e)) ∧ Below w1.heap.size w1 w' from h)))
  simp only [emV, enT, enV] at HC
  go_wp2_with fail
  (with_reducible refine (HC.out).mono ?_)
  rintro _ w2 ⟨rfl, hb⟩
  have hbx := bel_alloc hb (.cells #[.string ⟨((entD e).getD zeroEnt).gu.toArray⟩, .string ⟨((entD e).getD zeroEnt).ti.toArray⟩, .string ⟨((entD e).getD zeroEnt).li.toArray⟩, .int .i64 ((entD e).getD zeroEnt).da, .bool ((entD e).getD zeroEnt).dd] 35)
  have F0_9 := Lib.hid (em_bel F0_5.out hbx)
  have X0_10 := Lib.hid (X0_6.out.below hbx X0_6.out.lt)
  have BW_11 := Lib.hid (bel_step BW_7.out hbx)
  have MX_12 := Lib.hid (MX_8.out.keep hbx)
  clear F0_5 X0_6 BW_7 MX_8
  have Ya_13 := Lib.hid (Blk.new w2 35 #[.string ⟨((entD e).getD zeroEnt).gu.toArray⟩, .string ⟨((entD e).getD zeroEnt).ti.toArray⟩, .string ⟨((entD e).getD zeroEnt).li.toArray⟩, .int .i64 ((entD e).getD zeroEnt).da, .bool ((entD e).getD zeroEnt).dd])
  clear hb hbx HC q0 q1 q2 q3
  have q0 := X0_10.out.cell 0
  have q1 := X0_10.out.cell 1
  have q2 := X0_10.out.cell 2
  have q3 := X0_10.out.cell 3
  simp at q0 q1 q2 q3
  have HC := Lib.hid ((refEntry10_any e A B c d _ S F0_9.out HSM.out).mono (fun e' w' h => (show e' = .returned (enT (entD e)) ∧ Below (w2.alloc (.cells #[.string ⟨((entD e).getD zeroEnt).gu.toArray⟩, .string ⟨((entD e).getD zeroEnt).ti.toArray⟩, .string ⟨((entD e).getD zeroEnt).li.toArray⟩, .int .i64 ((entD e).getD zeroEnt).da, .bool ((entD e).getD zeroEnt).dd] 35)).heap.size (w2.alloc (.cells #[.string ⟨((entD e).getD zeroEnt).gu.toArray⟩, .string ⟨((entD e).getD zeroEnt).ti.toArray⟩, .string ⟨((entD e).getD zeroEnt).li.toArray⟩, .int .i64 ((entD e).getD zeroEnt).da, .bool ((entD e).getD zeroEnt).dd] 35)) w' from h)))
  simp only [emV, enT, enV] at HC
  go_wp2_with fail
  (with_reducible refine (HC.out).mono ?_)
  rintro _ w3 ⟨rfl, hb⟩
  have hbx := bel_alloc hb (.cells #[.string ⟨((entD e).getD zeroEnt).gu.toArray⟩, .string ⟨((entD e).getD zeroEnt).ti.toArray⟩, .string ⟨((entD e).getD zeroEnt).li.toArray⟩, .int .i64 ((entD e).getD zeroEnt).da, .bool ((entD e).getD zeroEnt).dd] 35)
  have BW_14 := Lib.hid (bel_step BW_11.out hbx)
  have MX_15 := Lib.hid (MX_12.out.keep hbx)
  have Ya_16 := Lib.hid (Ya_13.out.below hbx Ya_13.out.lt)
  clear F0_9 X0_10 BW_11 MX_12 Ya_13
  have Yb_17 := Lib.hid (Blk.new w3 35 #[.string ⟨((entD e).getD zeroEnt).gu.toArray⟩, .string ⟨((entD e).getD zeroEnt).ti.toArray⟩, .string ⟨((entD e).getD zeroEnt).li.toArray⟩, .int .i64 ((entD e).getD zeroEnt).da, .bool ((entD e).getD zeroEnt).dd])
  clear hb hbx HC q0 q1 q2 q3 HSM
  obtain ⟨ga, hga⟩ : ∃ ga, ga = w2.heap.size := ⟨_, rfl⟩
  obtain ⟨gb, hgb⟩ : ∃ gb, gb = w3.heap.size := ⟨_, rfl⟩
  rw [← hga] at Ya_16
  rw [← hgb] at Yb_17
  go_upto_region 5 with fail
  simp only [← hga, ← hgb]
  obtain ⟨o, ho⟩ : ∃ o, o = entD e := ⟨_, rfl⟩
  simp only [← ho] at *
  generalize w3.alloc (.cells #[.string ⟨(o.getD zeroEnt).gu.toArray⟩, .string ⟨(o.getD zeroEnt).ti.toArray⟩, .string ⟨(o.getD zeroEnt).li.toArray⟩, .int .i64 (o.getD zeroEnt).da, .bool (o.getD zeroEnt).dd] 35) = wr at *
  clear hga hgb ho
  cases o with
  | none =>
    simp only [Option.getD_none, Option.isSome_none, zeroEnt] at *
    have HCT : Hid (cleanT ([] : List UInt8) = []) := Lib.hid (by decide +kernel)
    have HCG := HCT
    clear HGD
    refine wp_region_ord wr.heap.size (by kernel_rfl) (.exec 0 (.take 1 (.take 2 (.take 3 (.take 4 (.take 5 (.take 6 (.take 7 (.take 8 (.take 9 (.take 10 (.take 11 (.take 12 (.take 13 (.take 14 (.take 15 (.take 16 (.take 17 (.take 18 (.take 19 (.take 20 (.take 21 (.take 22 (.take 23 (.take 24 (.take 25 (.take 26 (.take 27 (.take 28 (.take 29 (.take 30 (.take 31 (.take 32 (.take 33 (.take 34 (.take 35 (.take 36 (.take 37 (.take 38 (.take 40 (.take 41 (.exec 39 (.take 42 (.take 43 (.take 44 (.take 45 (.take 46 (.take 48 (.take 49 (.exec 47 (.take 50 (.take 51 (.take 52 (.nil)))))))))))))))))))))))))))))))))))))))))))))))))))))) (by kernel_rfl) (by kernel_rfl) (by kernel_rfl) ?_
    intro w0 hb0 hz0
    have BQ0 := Lib.hid hb0
    refine wpOrd_exec (o := ⟨_, _, _, _, _, _⟩) rfl rfl (fun K hK => ?_)
    go_simp
    (with_reducible refine (lives10_any m _ (MX_15.out.keep hb0)).mono ?_)
    rintro _ wa ⟨rfl, hba⟩
    go_wp2_with fail
    refine hK _ _ (hba.mono (Nat.le_of_eq hz0.symm)) ?_
    clear hK K
    have BQ1 := Lib.hid (BQ0.out.trans (hba.mono (Nat.le_of_eq hz0.symm)))
    clear hb0 hz0 hba BQ0
    have y0 := fun W (hW : Below wr.heap.size wa W) => (show W.cell? ⟨ga, 0, none⟩ = some (.string ⟨([] : List UInt8).toArray⟩) from ((Ya_16.out.below (BQ1.out.trans hW) Ya_16.out.lt).cell 0).trans rfl)
    have y1 := fun W (hW : Below wr.heap.size wa W) => (show W.cell? ⟨ga, 1, none⟩ = some (.string ⟨([] : List UInt8).toArray⟩) from ((Ya_16.out.below (BQ1.out.trans hW) Ya_16.out.lt).cell 1).trans rfl)
    have y2 := fun W (hW : Below wr.heap.size wa W) => (show W.cell? ⟨ga, 2, none⟩ = some (.string ⟨([] : List UInt8).toArray⟩) from ((Ya_16.out.below (BQ1.out.trans hW) Ya_16.out.lt).cell 2).trans rfl)
    have y3 := fun W (hW : Below wr.heap.size wa W) => (show W.cell? ⟨ga, 3, none⟩ = some (.int .i64 0) from ((Ya_16.out.below (BQ1.out.trans hW) Ya_16.out.lt).cell 3).trans rfl)
    have y4 := fun W (hW : Below wr.heap.size wa W) => (show W.cell? ⟨ga, 4, none⟩ = some (.bool false) from ((Ya_16.out.below (BQ1.out.trans hW) Ya_16.out.lt).cell 4).trans rfl)
    have z0 := fun W (hW : Below wr.heap.size wa W) => (show W.cell? ⟨gb, 0, none⟩ = some (.string ⟨([] : List UInt8).toArray⟩) from ((Yb_17.out.below (BQ1.out.trans hW) Yb_17.out.lt).cell 0).trans rfl)
    have z1 := fun W (hW : Below wr.heap.size wa W) => (show W.cell? ⟨gb, 1, none⟩ = some (.string ⟨([] : List UInt8).toArray⟩) from ((Yb_17.out.below (BQ1.out.trans hW) Yb_17.out.lt).cell 1).trans rfl)
    have z2 := fun W (hW : Below wr.heap.size wa W) => (show W.cell? ⟨gb, 2, none⟩ = some (.string ⟨([] : List UInt8).toArray⟩) from ((Yb_17.out.below (BQ1.out.trans hW) Yb_17.out.lt).cell 2).trans rfl)
    have z3 := fun W (hW : Below wr.heap.size wa W) => (show W.cell? ⟨gb, 3, none⟩ = some (.int .i64 0) from ((Yb_17.out.below (BQ1.out.trans hW) Yb_17.out.lt).cell 3).trans rfl)
    have z4 := fun W (hW : Below wr.heap.size wa W) => (show W.cell? ⟨gb, 4, none⟩ = some (.bool false) from ((Yb_17.out.below (BQ1.out.trans hW) Yb_17.out.lt).cell 4).trans rfl)
    iterate 40 (refine wpOrd_take (o := ⟨_, _, _, _, _, _⟩) (v := ?_) rfl rfl ?_ ?_; rotate_left; (focus (intro W hW; go_simp; first | done | with_reducible rfl)); simp only [Act.put, List.setIfInBounds_toArray, List.set_cons_zero, List.set_cons_succ])
    have CN := Lib.hid (refClean_l ([] : List UInt8) wa (by simp))
    rw [HCT.out] at CN
    refine wpOrd_exec (o := ⟨_, _, _, _, _, _⟩) rfl rfl (fun K hK => ?_)
    go_simp
    (with_reducible refine (CN.out).mono ?_)
    rintro _ wb ⟨rfl, hbb⟩
    go_wp2_with fail
    refine hK _ _ (hbb.mono BQ1.out.size) ?_
    clear hK K CN
    have BQ2 := Lib.hid (BQ1.out.trans (hbb.mono BQ1.out.size))
    have y0 := fun W (hW : Below wr.heap.size wb W) => (show W.cell? ⟨ga, 0, none⟩ = some (.string ⟨([] : List UInt8).toArray⟩) from ((Ya_16.out.below (BQ2.out.trans hW) Ya_16.out.lt).cell 0).trans rfl)
    have y1 := fun W (hW : Below wr.heap.size wb W) => (show W.cell? ⟨ga, 1, none⟩ = some (.string ⟨([] : List UInt8).toArray⟩) from ((Ya_16.out.below (BQ2.out.trans hW) Ya_16.out.lt).cell 1).trans rfl)
    clear hbb
    iterate 7 (refine wpOrd_take (o := ⟨_, _, _, _, _, _⟩) (v := ?_) rfl rfl ?_ ?_; rotate_left; (focus (intro W hW; go_simp; first | done | with_reducible rfl)); simp only [Act.put, List.setIfInBounds_toArray, List.set_cons_zero, List.set_cons_succ])
    have CN := Lib.hid (refClean_l ([] : List UInt8) wb (by simp))
    rw [HCG.out] at CN
    refine wpOrd_exec (o := ⟨_, _, _, _, _, _⟩) rfl rfl (fun K hK => ?_)
    go_simp
    (with_reducible refine (CN.out).mono ?_)
    rintro _ wc2 ⟨rfl, hbb⟩
    go_wp2_with fail
    refine hK _ _ (hbb.mono BQ2.out.size) ?_
    clear hK K CN
    have BQ3 := Lib.hid (BQ2.out.trans (hbb.mono BQ2.out.size))
    have y0 := fun W (hW : Below wr.heap.size wc2 W) => (show W.cell? ⟨ga, 0, none⟩ = some (.string ⟨([] : List UInt8).toArray⟩) from ((Ya_16.out.below (BQ3.out.trans hW) Ya_16.out.lt).cell 0).trans rfl)
    have y1 := fun W (hW : Below wr.heap.size wc2 W) => (show W.cell? ⟨ga, 1, none⟩ = some (.string ⟨([] : List UInt8).toArray⟩) from ((Ya_16.out.below (BQ3.out.trans hW) Ya_16.out.lt).cell 1).trans rfl)
    clear hbb
    iterate 3 (refine wpOrd_take (o := ⟨_, _, _, _, _, _⟩) (v := ?_) rfl rfl ?_ ?_; rotate_left; (focus (intro W hW; go_simp; first | done | with_reducible rfl)); simp only [Act.put, List.setIfInBounds_toArray, List.set_cons_zero, List.set_cons_succ])
    refine wpOrd_nil ?_
    go_wp2_with fail
    go_ret
    exact ⟨rfl, bel_step BW_14.out BQ3.out⟩
  | some x =>
    obtain ⟨g1, g2, g3, g4, g5, g6⟩ := HGD.out x rfl
    obtain ⟨gu, ti, li, da, dd⟩ := x
    simp only [Option.getD_some, Option.isSome_some] at *
    have f1 : (gu != []) = true := by simpa using g1
    have f1b : (gu == []) = false := by simpa using g1
    have f1c : gu.isEmpty = false := by cases gu with | nil => exact absurd rfl g1 | cons a b => rfl
    have f2 : decide ((gu.length : Int) ≤ 512) = true := by simp; omega
    have f3 : decide ((ti.length : Int) ≤ 256) = true := by simp; omega
    have f4 : decide ((li.length : Int) ≤ 512) = true := by simp; omega
    have HCT : Hid (cleanT ti = ti) := Lib.hid g5
    have HCG : Hid (cleanT gu = gu) := Lib.hid g6
    clear g5 g6
    clear HGD
    refine wp_region_ord wr.heap.size (by kernel_rfl) (.exec 0 (.take 1 (.take 2 (.take 3 (.take 4 (.take 5 (.take 6 (.take 7 (.take 8 (.take 9 (.take 10 (.take 11 (.take 12 (.take 13 (.take 14 (.take 15 (.take 16 (.take 17 (.take 18 (.take 19 (.take 20 (.take 21 (.take 22 (.take 23 (.take 24 (.take 25 (.take 26 (.take 27 (.take 28 (.take 29 (.take 30 (.take 31 (.take 32 (.take 33 (.take 34 (.take 35 (.take 36 (.take 37 (.take 38 (.take 40 (.take 41 (.exec 39 (.take 42 (.take 43 (.take 44 (.take 45 (.take 46 (.take 48 (.take 49 (.exec 47 (.take 50 (.take 51 (.take 52 (.nil)))))))))))))))))))))))))))))))))))))))))))))))))))))) (by kernel_rfl) (by kernel_rfl) (by kernel_rfl) ?_
    intro w0 hb0 hz0
    have BQ0 := Lib.hid hb0
    refine wpOrd_exec (o := ⟨_, _, _, _, _, _⟩) rfl rfl (fun K hK => ?_)
    go_simp
    (with_reducible refine (lives10_any m _ (MX_15.out.keep hb0)).mono ?_)
    rintro _ wa ⟨rfl, hba⟩
    go_wp2_with fail
    refine hK _ _ (hba.mono (Nat.le_of_eq hz0.symm)) ?_
    clear hK K
    have BQ1 := Lib.hid (BQ0.out.trans (hba.mono (Nat.le_of_eq hz0.symm)))
    clear hb0 hz0 hba BQ0
    have y0 := fun W (hW : Below wr.heap.size wa W) => (show W.cell? ⟨ga, 0, none⟩ = some (.string ⟨gu.toArray⟩) from ((Ya_16.out.below (BQ1.out.trans hW) Ya_16.out.lt).cell 0).trans rfl)
    have y1 := fun W (hW : Below wr.heap.size wa W) => (show W.cell? ⟨ga, 1, none⟩ = some (.string ⟨ti.toArray⟩) from ((Ya_16.out.below (BQ1.out.trans hW) Ya_16.out.lt).cell 1).trans rfl)
    have y2 := fun W (hW : Below wr.heap.size wa W) => (show W.cell? ⟨ga, 2, none⟩ = some (.string ⟨li.toArray⟩) from ((Ya_16.out.below (BQ1.out.trans hW) Ya_16.out.lt).cell 2).trans rfl)
    have y3 := fun W (hW : Below wr.heap.size wa W) => (show W.cell? ⟨ga, 3, none⟩ = some (.int .i64 da) from ((Ya_16.out.below (BQ1.out.trans hW) Ya_16.out.lt).cell 3).trans rfl)
    have y4 := fun W (hW : Below wr.heap.size wa W) => (show W.cell? ⟨ga, 4, none⟩ = some (.bool dd) from ((Ya_16.out.below (BQ1.out.trans hW) Ya_16.out.lt).cell 4).trans rfl)
    have z0 := fun W (hW : Below wr.heap.size wa W) => (show W.cell? ⟨gb, 0, none⟩ = some (.string ⟨gu.toArray⟩) from ((Yb_17.out.below (BQ1.out.trans hW) Yb_17.out.lt).cell 0).trans rfl)
    have z1 := fun W (hW : Below wr.heap.size wa W) => (show W.cell? ⟨gb, 1, none⟩ = some (.string ⟨ti.toArray⟩) from ((Yb_17.out.below (BQ1.out.trans hW) Yb_17.out.lt).cell 1).trans rfl)
    have z2 := fun W (hW : Below wr.heap.size wa W) => (show W.cell? ⟨gb, 2, none⟩ = some (.string ⟨li.toArray⟩) from ((Yb_17.out.below (BQ1.out.trans hW) Yb_17.out.lt).cell 2).trans rfl)
    have z3 := fun W (hW : Below wr.heap.size wa W) => (show W.cell? ⟨gb, 3, none⟩ = some (.int .i64 da) from ((Yb_17.out.below (BQ1.out.trans hW) Yb_17.out.lt).cell 3).trans rfl)
    have z4 := fun W (hW : Below wr.heap.size wa W) => (show W.cell? ⟨gb, 4, none⟩ = some (.bool dd) from ((Yb_17.out.below (BQ1.out.trans hW) Yb_17.out.lt).cell 4).trans rfl)
    iterate 40 (refine wpOrd_take (o := ⟨_, _, _, _, _, _⟩) (v := ?_) rfl rfl ?_ ?_; rotate_left; (focus (intro W hW; go_simp; first | done | with_reducible rfl)); simp only [Act.put, List.setIfInBounds_toArray, List.set_cons_zero, List.set_cons_succ])
    have CN := Lib.hid (refClean_l (ti : List UInt8) wa (by omega))
    rw [HCT.out] at CN
    refine wpOrd_exec (o := ⟨_, _, _, _, _, _⟩) rfl rfl (fun K hK => ?_)
    go_simp
    (with_reducible refine (CN.out).mono ?_)
    rintro _ wb ⟨rfl, hbb⟩
    go_wp2_with fail
    refine hK _ _ (hbb.mono BQ1.out.size) ?_
    clear hK K CN
    have BQ2 := Lib.hid (BQ1.out.trans (hbb.mono BQ1.out.size))
    have y0 := fun W (hW : Below wr.heap.size wb W) => (show W.cell? ⟨ga, 0, none⟩ = some (.string ⟨gu.toArray⟩) from ((Ya_16.out.below (BQ2.out.trans hW) Ya_16.out.lt).cell 0).trans rfl)
    have y1 := fun W (hW : Below wr.heap.size wb W) => (show W.cell? ⟨ga, 1, none⟩ = some (.string ⟨ti.toArray⟩) from ((Ya_16.out.below (BQ2.out.trans hW) Ya_16.out.lt).cell 1).trans rfl)
    clear hbb
    iterate 7 (refine wpOrd_take (o := ⟨_, _, _, _, _, _⟩) (v := ?_) rfl rfl ?_ ?_; rotate_left; (focus (intro W hW; go_simp; first | done | with_reducible rfl)); simp only [Act.put, List.setIfInBounds_toArray, List.set_cons_zero, List.set_cons_succ])
    have CN := Lib.hid (refClean_l (gu : List UInt8) wb (by omega))
    rw [HCG.out] at CN
    refine wpOrd_exec (o := ⟨_, _, _, _, _, _⟩) rfl rfl (fun K hK => ?_)
    go_simp
    (with_reducible refine (CN.out).mono ?_)
    rintro _ wc2 ⟨rfl, hbb⟩
    go_wp2_with fail
    refine hK _ _ (hbb.mono BQ2.out.size) ?_
    clear hK K CN
    have BQ3 := Lib.hid (BQ2.out.trans (hbb.mono BQ2.out.size))
    have y0 := fun W (hW : Below wr.heap.size wc2 W) => (show W.cell? ⟨ga, 0, none⟩ = some (.string ⟨gu.toArray⟩) from ((Ya_16.out.below (BQ3.out.trans hW) Ya_16.out.lt).cell 0).trans rfl)
    have y1 := fun W (hW : Below wr.heap.size wc2 W) => (show W.cell? ⟨ga, 1, none⟩ = some (.string ⟨ti.toArray⟩) from ((Ya_16.out.below (BQ3.out.trans hW) Ya_16.out.lt).cell 1).trans rfl)
    clear hbb
    iterate 3 (refine wpOrd_take (o := ⟨_, _, _, _, _, _⟩) (v := ?_) rfl rfl ?_ ?_; rotate_left; (focus (intro W hW; go_simp; first | done | with_reducible rfl)); simp only [Act.put, List.setIfInBounds_toArray, List.set_cons_zero, List.set_cons_succ])
    refine wpOrd_nil ?_
    go_wp2_with fail
    go_ret
    exact ⟨rfl, bel_step BW_14.out BQ3.out⟩
set_option maxHeartbeats 16000000 in
theorem rssFields_walk (e : Elm) (A B : Option Addr) (c d : Nat) (s : List UInt8) (n : Int) (L : List (List UInt8)) (AL : Option Addr) (k cL : Nat) (m : Int) (w : World) (S : Nat → Prop) (he : EmF w S e A c B d) (hM : MM m w) (hs : s.length ≤ 9223372036854775807) (h0 : -9223372036854775808 ≤ n) (h1 : n ≤ 9223372036854775807) (hL : Ss w AL k L) (hk : k ≤ cL ∧ cL ≤ 9223372036854775807) : Calls Tryz.prog 5 #[.agg (emV e A e.ats.length c B e.kids.length d), .string ⟨s.toArray⟩, .int .i64 n, .slice AL k cL] w (RetTrue w) := by
  have b0 := bel_alloc (Below.refl w.heap.size w) (.cells (emV e A e.ats.length c B e.kids.length d) 25)
  have HL := Lib.hid (Large12_any e A B c d _ S (em_bel he b0))
  have F0_1 := Lib.hid (em_bel he b0)
  have X0_2 := Lib.hid (Blk.new w 25 (emV e A e.ats.length c B e.kids.length d))
  have BW_3 := Lib.hid (b0)
  have MX_4 := Lib.hid (hM.keep b0)
  obtain ⟨hca, hcb⟩ := he.hc
  obtain ⟨hda, hdb⟩ := he.hd
  clear he hM b0
  simp only [emV] at HL F0_1 X0_2 BW_3 MX_4 ⊢
  have hL1 := hL.below (bel_alloc (Below.refl w.heap.size w) (.cells (emV e A e.ats.length c B e.kids.length d) 25))
  obtain ⟨hk1, hk2⟩ := hk
  simp only [emV] at hL1
  have SL_5 := Lib.hid (hL1)
  clear hL hL1
  go_enter Tryz.func5, Tryz.ntmps5
  go_wp2_with fail
  (with_reducible refine (HL.out).mono ?_)
  rintro _ w1 ⟨⟨b, rfl, hsm⟩, hb⟩
  have F0_6 := Lib.hid (em_bel F0_1.out hb)
  have X0_7 := Lib.hid (X0_2.out.below hb X0_2.out.lt)
  have BW_8 := Lib.hid (bel_step BW_3.out hb)
  have MX_9 := Lib.hid (MX_4.out.keep hb)
  have SL_10 := Lib.hid (SL_5.out.below hb)
  clear F0_1 X0_2 BW_3 MX_4 SL_5
  clear hb HL
  cases b with
  | true =>
    go_wp2_with fail
    (with_reducible refine (lives10_any m _ MX_9.out).mono ?_)
    rintro _ wl ⟨rfl, hbl⟩
    go_wp2_with fail
    go_ret
    exact ⟨rfl, bel_step BW_8.out hbl⟩
  | false =>
  by_cases hs3 : 300 < s.length
  · have d1 : decide (300 < (s.length : Int)) = true := by simp; omega
    go_wp2_with fail
    (with_reducible refine (lives10_any m _ MX_9.out).mono ?_)
    rintro _ wl ⟨rfl, hbl⟩
    go_wp2_with fail
    go_ret
    exact ⟨rfl, bel_step BW_8.out hbl⟩
  have d1 : decide (300 < (s.length : Int)) = false := by simp; omega
  by_cases hk3 : 20 < k
  · have d2 : decide (20 < (k : Int)) = true := by simp; omega
    go_wp2_with fail
    (with_reducible refine (lives10_any m _ MX_9.out).mono ?_)
    rintro _ wl ⟨rfl, hbl⟩
    go_wp2_with fail
    go_ret
    exact ⟨rfl, bel_step BW_8.out hbl⟩
  have d2 : decide (20 < (k : Int)) = false := by simp; omega
  have HSM := Lib.hid (sm_le (show 8 ≤ 12 by omega) (hsm rfl))
  clear hsm
  have q0 := X0_7.out.cell 0
  have q1 := X0_7.out.cell 1
  have q2 := X0_7.out.cell 2
  have q3 := X0_7.out.cell 3
  simp at q0 q1 q2 q3
  have HC := Lib.hid (Moment10_any e A B c d L AL k cL m _ S F0_6.out SL_10.out HSM.out MX_9.out (by omega))
  simp only [emV, znV] at HC
  go_wp2_with fail
  (with_reducible refine (HC.out).mono ?_)
  rintro _ w2 ⟨rfl, hb⟩
  have F0_11 := Lib.hid (em_bel F0_6.out hb)
  have X0_12 := Lib.hid (X0_7.out.below hb X0_7.out.lt)
  have BW_13 := Lib.hid (bel_step BW_8.out hb)
  have MX_14 := Lib.hid (MX_9.out.keep hb)
  have SL_15 := Lib.hid (SL_10.out.below hb)
  clear F0_6 X0_7 BW_8 MX_9 SL_10
  clear hb HC q0 q1 q2 q3
  have q0 := X0_12.out.cell 0
  have q1 := X0_12.out.cell 1
  have q2 := X0_12.out.cell 2
  have q3 := X0_12.out.cell 3
  simp at q0 q1 q2 q3
  have HC := Lib.hid (refMoment10_any e A B c d L AL k cL _ S F0_11.out SL_15.out HSM.out ⟨hk1, hk2⟩ (by omega))
  simp only [emV, znV] at HC
  go_wp2_with fail
  (with_reducible refine (HC.out).mono ?_)
  rintro _ w3 ⟨rfl, hb⟩
  have F0_16 := Lib.hid (em_bel F0_11.out hb)
  have X0_17 := Lib.hid (X0_12.out.below hb X0_12.out.lt)
  have BW_18 := Lib.hid (bel_step BW_13.out hb)
  have MX_19 := Lib.hid (MX_14.out.keep hb)
  have SL_20 := Lib.hid (SL_15.out.below hb)
  clear F0_11 X0_12 BW_13 MX_14 SL_15
  clear hb HC q0 q1 q2 q3
  go_upto_region 5 with fail
  have e1 : ((momD e L).getD 0 == (momD e L).getD 0) = true := by simp
  have e2 : ((momD e L).isSome == (momD e L).isSome) = true := by simp
  refine wp_region_ord w3.heap.size (by kernel_rfl) (.exec 0 (.take 1 (.take 2 (.take 3 (.take 4 (.take 6 (.take 7 (.take 8 (.exec 5 (.exec 9 (.take 10 (.take 11 (.take 12 (.take 13 (.take 14 (.take 15 (.take 16 (.take 17 (.take 18 (.take 19 (.take 20 (.take 21 (.take 22 (.nil)))))))))))))))))))))))) (by kernel_rfl) (by kernel_rfl) (by kernel_rfl) ?_
  intro w0 hb0 hz0
  have BQ0 := Lib.hid hb0
  refine wpOrd_exec (o := ⟨_, _, _, _, _, _⟩) rfl rfl (fun K hK => ?_)
  go_simp
  (with_reducible refine (lives10_any m _ (MX_19.out.keep hb0)).mono ?_)
  rintro _ wa ⟨rfl, hba⟩
  go_wp2_with fail
  refine hK _ _ (hba.mono (Nat.le_of_eq hz0.symm)) ?_
  clear hK K
  have BQ1 := Lib.hid (BQ0.out.trans (hba.mono (Nat.le_of_eq hz0.symm)))
  clear hb0 hz0 hba BQ0
  have y0 := fun W (hW : Below w3.heap.size wa W) => (show W.cell? ⟨w.heap.size, 0, none⟩ = some (.string ⟨e.nm.toArray⟩) from ((X0_17.out.below (BQ1.out.trans hW) X0_17.out.lt).cell 0).trans rfl)
  have y1 := fun W (hW : Below w3.heap.size wa W) => (show W.cell? ⟨w.heap.size, 1, none⟩ = some (.slice A e.ats.length c) from ((X0_17.out.below (BQ1.out.trans hW) X0_17.out.lt).cell 1).trans rfl)
  have y2 := fun W (hW : Below w3.heap.size wa W) => (show W.cell? ⟨w.heap.size, 2, none⟩ = some (.string ⟨e.tx.toArray⟩) from ((X0_17.out.below (BQ1.out.trans hW) X0_17.out.lt).cell 2).trans rfl)
  have y3 := fun W (hW : Below w3.heap.size wa W) => (show W.cell? ⟨w.heap.size, 3, none⟩ = some (.slice B e.kids.length d) from ((X0_17.out.below (BQ1.out.trans hW) X0_17.out.lt).cell 3).trans rfl)
  iterate 7 (refine wpOrd_take (o := ⟨_, _, _, _, _, _⟩) (v := ?_) rfl rfl ?_ ?_; rotate_left; (focus (intro W hW; go_simp; first | done | with_reducible rfl)); simp only [Act.put, List.setIfInBounds_toArray, List.set_cons_zero, List.set_cons_succ])
  clear y0 y1 y2 y3
  have CN := Lib.hid (field10_any e A B c d s n wa S (em_bel F0_16.out BQ1.out) (kid_tx (n := 6) HSM.out s) h0 h1)
  simp only [emV] at CN
  refine wpOrd_exec (o := ⟨_, _, _, _, _, _⟩) rfl rfl (fun K hK => ?_)
  go_simp
  (with_reducible refine (CN.out).mono ?_)
  rintro _ wb ⟨rfl, hbb⟩
  go_wp2_with fail
  refine hK _ _ (hbb.mono BQ1.out.size) ?_
  clear hK K CN
  have BQ2 := Lib.hid (BQ1.out.trans (hbb.mono BQ1.out.size))
  clear hbb
  have CN := Lib.hid (refField10_any e A B c d s n wb S (em_bel F0_16.out BQ2.out) (kid_tx (n := 6) HSM.out s) h0 h1)
  simp only [emV] at CN
  refine wpOrd_exec (o := ⟨_, _, _, _, _, _⟩) rfl rfl (fun K hK => ?_)
  go_simp
  (with_reducible refine (CN.out).mono ?_)
  rintro _ wc2 ⟨rfl, hbb⟩
  go_wp2_with fail
  refine hK _ _ (hbb.mono BQ2.out.size) ?_
  clear hK K CN
  have BQ3 := Lib.hid (BQ2.out.trans (hbb.mono BQ2.out.size))
  clear hbb
  iterate 13 (refine wpOrd_take (o := ⟨_, _, _, _, _, _⟩) (v := ?_) rfl rfl ?_ ?_; rotate_left; (focus (intro W hW; go_simp; first | done | with_reducible rfl)); simp only [Act.put, List.setIfInBounds_toArray, List.set_cons_zero, List.set_cons_succ])
  refine wpOrd_nil ?_
  go_wp2_with fail
  go_ret
  exact ⟨by first | rfl | simp, bel_step BW_18.out BQ3.out⟩
end Go.Proofs.YtlmmiaghbommcaaGreatDoor
