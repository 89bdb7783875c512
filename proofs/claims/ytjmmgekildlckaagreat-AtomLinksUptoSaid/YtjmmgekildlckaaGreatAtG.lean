/-
  The walks of the statements on feeds of the kind Atom (printed by gen_atg.py).
-/
import Derived.Test.YtjmmgekildlckaaGreatAtF
namespace Go.Proofs.YtjmmgekildlckaaGreat
open Go.ChangeShapes Go.WideShapes Go.ChangeAt Go.Deep
open Go.RowKit Go.Nst
set_option maxRecDepth 100000
set_option linter.unusedVariables false
set_option linter.unusedSimpArgs false

theorem smA_le {n m : Nat} (h : m ≤ n) {e : Elm} (hs : SmE n e) : SmE m e := by
  obtain ⟨d, rfl⟩ : ∃ d, n = m + d := ⟨n - m, by omega⟩
  induction d with
  | zero => exact hs
  | succ d ih => exact ih (by omega) (sm_down hs)
theorem cntL_lenA : ∀ (l : List Elm) (d : Nat) (m : Int), d < 40 → 0 < m → 0 < cntL l d m → (l.length : Int) < m
  | [], d, m, hd, hm, h => by simpa using hm
  | k :: ks, d, m, hd, hm, h => by
    simp only [cntL] at h
    rw [if_pos ⟨hm, hd⟩] at h
    have h1 := cnt_mono k (d + 1) m
    by_cases h2 : 0 < cntE k (d + 1) m
    · have := cntL_lenA ks d _ hd h2 h
      simp only [List.length_cons]
      omega
    · rw [cntL_stop _ _ _ (by omega)] at h
      exact absurd h h2
theorem kids_leA {e : Elm} (h : 0 < cntE e 1 6000) : e.kids.length ≤ 6000 := by
  obtain ⟨nm, ats, tx, l⟩ := e
  simp only [cntE] at h
  have ha := atsum_pos ats
  by_cases h0 : 0 < (6000 : Int) - 1 - (tx.length : Int) - (nm.length : Int) - (ats.length : Int) - atsum ats
  · have := cntL_lenA l 1 _ (by omega) h0 h
    show l.length ≤ 6000
    omega
  · rw [cntL_stop _ _ _ (by omega)] at h
    exact absurd h h0
/-- not too large: the texts are short, the kids not many -/
theorem LargeA_any (e : Elm) (A B : Option Addr) (c d : Nat) (w : World) (S : Nat → Prop) (he : EmF w S e A c B d) :
    Calls Tryz.prog 5 #[.agg (emV e A e.ats.length c B e.kids.length d)] w fun e' w' => (∃ b, e' = .returned (.bool b) ∧ (b = false → SmE 12 e ∧ e.kids.length ≤ 6000)) ∧ Below w.heap.size w w' := by
  have B0 := bel_alloc (Below.refl w.heap.size w) (.cells (emV e A e.ats.length c B e.kids.length d) 25)
  have HC := Lib.hid (show Calls Tryz.prog 13 #[.agg (emV e A e.ats.length c B e.kids.length d), .int .i64 1, .int .i64 6000] _ _ from count9_any e A B c d 1 6000 _ S (by omega) (by omega) (by omega) (em_bel he B0))
  have HP : Hid (decide (cntE e 1 6000 ≤ 0) = false → SmE 12 e ∧ e.kids.length ≤ 6000) := Lib.hid (fun h => ⟨cnt_pos 12 e 1 6000 (by omega) (by omega) (Int.not_le.1 (of_decide_eq_false h)), kids_leA (Int.not_le.1 (of_decide_eq_false h))⟩)
  obtain ⟨hc1, hc2⟩ := he.hc
  obtain ⟨hd1, hd2⟩ := he.hd
  clear he
  generalize cntE e 1 6000 = z at *
  simp only [emV] at *
  go_enter Tryz.func5, Tryz.ntmps5
  go_wp2_with fail
  (with_reducible refine (HC.out).mono ?_)
  rintro e' w2 ⟨rfl, hb2⟩
  go_wp2_with fail
  go_ret
  exact ⟨⟨_, rfl, HP.out⟩, bel_step B0 hb2⟩
theorem atom_rss {e : Elm} (h : (readA e).isSome = true) : (readD e).isSome = false := by
  unfold readA at h
  by_cases h1 : shortD e.nm = sFeedA
  · unfold readD
    rw [if_neg (by rw [h1]; rintro ⟨_, h2⟩; exact absurd h2 (by decide))]
    rfl
  · rw [if_neg h1] at h
    cases h
theorem entA_good {e : Elm} {x : Ent} (h : entA e = some x) : x.gu ≠ [] := by
  unfold entA at h
  by_cases h0 : guidA e = []
  · rw [if_pos h0] at h; cases h
  · rw [if_neg h0] at h
    have h := Option.some.inj h
    have e1 : x.gu = guidA e := by rw [← h]
    rw [e1]
    exact h0
theorem guA_some (e : Elm) : (((entA e).getD zeroEnt).gu == []) = !(entA e).isSome := by
  cases h : entA e with
  | none => rfl
  | some x =>
    have := entA_good h
    simpa using this
set_option maxHeartbeats 16000000 in
theorem atomEntries_walk (e : Elm) (A B : Option Addr) (c d : Nat) (w : World) (S : Nat → Prop) (he : EmF w S e A c B d) : Calls Tryz.prog 3 #[.agg (emV e A e.ats.length c B e.kids.length d)] w (RetTrue w) := by
  have b0 := bel_alloc (Below.refl w.heap.size w) (.cells (emV e A e.ats.length c B e.kids.length d) 25)
  have HL := Lib.hid (LargeA_any e A B c d _ S (em_bel he b0))
  have F0_1 := Lib.hid (em_bel he b0)
  have X0_2 := Lib.hid (Blk.new w 25 (emV e A e.ats.length c B e.kids.length d))
  have BW_3 := Lib.hid (b0)
  obtain ⟨hca, hcb⟩ := he.hc
  obtain ⟨hda, hdb⟩ := he.hd
  clear he b0
  simp only [emV] at HL F0_1 X0_2 BW_3 ⊢
  have hgu := guA_some e
  obtain ⟨o, ho⟩ : ∃ o, o = entA e := ⟨_, rfl⟩
  rw [← ho] at hgu
  have HO := Lib.hid ho
  have HGU := Lib.hid hgu
  clear ho hgu
  obtain ⟨tt, ht⟩ : ∃ tt, tt = o.isSome := ⟨_, rfl⟩
  have HT := Lib.hid ht
  clear ht
  go_enter Tryz.func3, Tryz.ntmps3
  go_wp2_with fail
  (with_reducible refine (HL.out).mono ?_)
  rintro _ w1 ⟨⟨b, rfl, hsm⟩, hb⟩
  have F0_4 := Lib.hid (em_bel F0_1.out hb)
  have X0_5 := Lib.hid (X0_2.out.below hb X0_2.out.lt)
  have BW_6 := Lib.hid (bel_step BW_3.out hb)
  clear F0_1 X0_2 BW_3
  clear hb HL
  cases b with
  | true =>
    go_wp2_with fail
    (with_reducible refine (lives11_any _).mono ?_)
    rintro _ wl ⟨rfl, hbl⟩
    go_wp2_with fail
    go_ret
    exact ⟨rfl, bel_step BW_6.out hbl⟩
  | false =>
  have HSM := Lib.hid (smA_le (show 8 ≤ 12 by omega) (hsm rfl).1)
  clear hsm
  have q0 := X0_5.out.cell 0
  have q1 := X0_5.out.cell 1
  have q2 := X0_5.out.cell 2
  have q3 := X0_5.out.cell 3
  simp at q0 q1 q2 q3
  have HC := Lib.hid ((Entry11_any e A B c d _ S F0_4.out HSM.out).mono (fun e' w' h => (show e' = .returned (enT (entA e)) ∧ Below (w1).heap.size (w1) w' from h)))
  rw [← HO.out] at HC
  simp only [emV, enT, enV] at HC
  rw [← HT.out] at HC
  go_wp2_with fail
  (with_reducible refine (HC.out).mono ?_)
  rintro _ w2 ⟨rfl, hb⟩
  have hbx := bel_alloc hb (.cells #[.string ⟨(o.getD zeroEnt).gu.toArray⟩, .string ⟨(o.getD zeroEnt).ti.toArray⟩, .string ⟨(o.getD zeroEnt).li.toArray⟩, .int .i64 (o.getD zeroEnt).da, .bool (o.getD zeroEnt).dd] 29)
  have F0_7 := Lib.hid (em_bel F0_4.out hbx)
  have X0_8 := Lib.hid (X0_5.out.below hbx X0_5.out.lt)
  have BW_9 := Lib.hid (bel_step BW_6.out hbx)
  clear F0_4 X0_5 BW_6
  have Ya_10 := Lib.hid (Blk.new w2 29 #[.string ⟨(o.getD zeroEnt).gu.toArray⟩, .string ⟨(o.getD zeroEnt).ti.toArray⟩, .string ⟨(o.getD zeroEnt).li.toArray⟩, .int .i64 (o.getD zeroEnt).da, .bool (o.getD zeroEnt).dd])
  clear hb hbx HC q0 q1 q2 q3
  have q0 := X0_8.out.cell 0
  have q1 := X0_8.out.cell 1
  have q2 := X0_8.out.cell 2
  have q3 := X0_8.out.cell 3
  simp at q0 q1 q2 q3
  have HC := Lib.hid ((refEntry11_any e A B c d _ S F0_7.out HSM.out).mono (fun e' w' h => (show e' = .returned (enT (entA e)) ∧ Below (w2.alloc (.cells #[.string ⟨(o.getD zeroEnt).gu.toArray⟩, .string ⟨(o.getD zeroEnt).ti.toArray⟩, .string ⟨(o.getD zeroEnt).li.toArray⟩, .int .i64 (o.getD zeroEnt).da, .bool (o.getD zeroEnt).dd] 29)).heap.size (w2.alloc (.cells #[.string ⟨(o.getD zeroEnt).gu.toArray⟩, .string ⟨(o.getD zeroEnt).ti.toArray⟩, .string ⟨(o.getD zeroEnt).li.toArray⟩, .int .i64 (o.getD zeroEnt).da, .bool (o.getD zeroEnt).dd] 29)) w' from h)))
  rw [← HO.out] at HC
  simp only [emV, enT, enV] at HC
  rw [← HT.out] at HC
  go_wp2_with fail
  (with_reducible refine (HC.out).mono ?_)
  rintro _ w3 ⟨rfl, hb⟩
  have hbx := bel_alloc hb (.cells #[.string ⟨(o.getD zeroEnt).gu.toArray⟩, .string ⟨(o.getD zeroEnt).ti.toArray⟩, .string ⟨(o.getD zeroEnt).li.toArray⟩, .int .i64 (o.getD zeroEnt).da, .bool (o.getD zeroEnt).dd] 29)
  have F0_11 := Lib.hid (em_bel F0_7.out hbx)
  have X0_12 := Lib.hid (X0_8.out.below hbx X0_8.out.lt)
  have BW_13 := Lib.hid (bel_step BW_9.out hbx)
  have Ya_14 := Lib.hid (Ya_10.out.below hbx Ya_10.out.lt)
  clear F0_7 X0_8 BW_9 Ya_10
  have Yb_15 := Lib.hid (Blk.new w3 29 #[.string ⟨(o.getD zeroEnt).gu.toArray⟩, .string ⟨(o.getD zeroEnt).ti.toArray⟩, .string ⟨(o.getD zeroEnt).li.toArray⟩, .int .i64 (o.getD zeroEnt).da, .bool (o.getD zeroEnt).dd])
  clear hb hbx HC q0 q1 q2 q3
  have hoo : (tt == tt) = true := by simp
  go_wp2_with fail
  (with_reducible refine (lives11_any _).mono ?_)
  rintro _ w4 ⟨rfl, hb⟩
  have BW_16 := Lib.hid (bel_step BW_13.out hb)
  have Ya_17 := Lib.hid (Ya_14.out.below hb Ya_14.out.lt)
  have Yb_18 := Lib.hid (Yb_15.out.below hb Yb_15.out.lt)
  clear BW_13 Ya_14 Yb_15
  clear hb
  have t0 := Ya_17.out.cell 0
  have t1 := Ya_17.out.cell 1
  have t2 := Ya_17.out.cell 2
  have t3 := Ya_17.out.cell 3
  have t4 := Ya_17.out.cell 4
  have u0 := Yb_18.out.cell 0
  have u1 := Yb_18.out.cell 1
  have u2 := Yb_18.out.cell 2
  have u3 := Yb_18.out.cell 3
  have u4 := Yb_18.out.cell 4
  simp at t0 t1 t2 t3 t4 u0 u1 u2 u3 u4
  have hg := HGU.out
  rw [← HT.out] at hg
  cases tt with
  | false =>
    simp only [Bool.not_false] at hg
    go_wp2_with fail
    go_ret
    exact ⟨by first | rfl | simp [hg], BW_16.out⟩
  | true =>
    simp only [Bool.not_true] at hg
    go_wp2_with fail
    go_ret
    exact ⟨by first | rfl | simp [hg], BW_16.out⟩
theorem lnkL_len : ∀ l : List Elm, (lnkL l).length ≤ 512
  | [] => by simp [lnkL]
  | k :: r => by
    simp only [lnkL]
    cases hrefD k with
    | none => exact lnkL_len r
    | some x => have := shortT_len x 512 (by omega); show (shortT x 512).length ≤ 512; omega
set_option maxHeartbeats 16000000 in
theorem atomLinks_walk (e : Elm) (A B : Option Addr) (c d : Nat) (w : World) (S : Nat → Prop) (he : EmF w S e A c B d) : Calls Tryz.prog 4 #[.agg (emV e A e.ats.length c B e.kids.length d)] w (RetTrue w) := by
  have b0 := bel_alloc (Below.refl w.heap.size w) (.cells (emV e A e.ats.length c B e.kids.length d) 25)
  have HL := Lib.hid (LargeA_any e A B c d _ S (em_bel he b0))
  have F0_1 := Lib.hid (em_bel he b0)
  have X0_2 := Lib.hid (Blk.new w 25 (emV e A e.ats.length c B e.kids.length d))
  have BW_3 := Lib.hid (b0)
  obtain ⟨hca, hcb⟩ := he.hc
  obtain ⟨hda, hdb⟩ := he.hd
  clear he b0
  simp only [emV] at HL F0_1 X0_2 BW_3 ⊢
  have hln : (lnkD e).length ≤ 512 := lnkL_len _
  go_enter Tryz.func4, Tryz.ntmps4
  go_wp2_with fail
  (with_reducible refine (HL.out).mono ?_)
  rintro _ w1 ⟨⟨b, rfl, hsm⟩, hb⟩
  have F0_4 := Lib.hid (em_bel F0_1.out hb)
  have X0_5 := Lib.hid (X0_2.out.below hb X0_2.out.lt)
  have BW_6 := Lib.hid (bel_step BW_3.out hb)
  clear F0_1 X0_2 BW_3
  clear hb HL
  cases b with
  | true =>
    go_wp2_with fail
    (with_reducible refine (lives11_any _).mono ?_)
    rintro _ wl ⟨rfl, hbl⟩
    go_wp2_with fail
    go_ret
    exact ⟨rfl, bel_step BW_6.out hbl⟩
  | false =>
  have HSM := Lib.hid (smA_le (show 8 ≤ 12 by omega) (hsm rfl).1)
  clear hsm
  have q0 := X0_5.out.cell 0
  have q1 := X0_5.out.cell 1
  have q2 := X0_5.out.cell 2
  have q3 := X0_5.out.cell 3
  simp at q0 q1 q2 q3
  have HC := Lib.hid (moment11W_any e A B c d _ S F0_4.out HSM.out)
  simp only [emV, znV] at HC
  go_wp2_with fail
  (with_reducible refine (HC.out).mono ?_)
  rintro _ w2 ⟨rfl, hb⟩
  have F0_7 := Lib.hid (em_bel F0_4.out hb)
  have X0_8 := Lib.hid (X0_5.out.below hb X0_5.out.lt)
  have BW_9 := Lib.hid (bel_step BW_6.out hb)
  clear F0_4 X0_5 BW_6
  clear hb HC q0 q1 q2 q3
  have q0 := X0_8.out.cell 0
  have q1 := X0_8.out.cell 1
  have q2 := X0_8.out.cell 2
  have q3 := X0_8.out.cell 3
  simp at q0 q1 q2 q3
  have HC := Lib.hid (refMoment11_any e A B c d _ S F0_7.out HSM.out)
  simp only [emV, znV] at HC
  go_wp2_with fail
  (with_reducible refine (HC.out).mono ?_)
  rintro _ w3 ⟨rfl, hb⟩
  have F0_10 := Lib.hid (em_bel F0_7.out hb)
  have X0_11 := Lib.hid (X0_8.out.below hb X0_8.out.lt)
  have BW_12 := Lib.hid (bel_step BW_9.out hb)
  clear F0_7 X0_8 BW_9
  clear hb HC q0 q1 q2 q3
  go_upto_region 5 with fail
  have e1 : ((momA e).getD 0 == (momA e).getD 0) = true := by simp
  have e2 : ((momA e).isSome == (momA e).isSome) = true := by simp
  have e3 : decide (((lnkD e).length : Int) ≤ 512) = true := by simp; omega
  refine wp_region_ord w3.heap.size (by kernel_rfl) (.exec 0 (.take 1 (.take 2 (.take 4 (.exec 3 (.exec 5 (.take 6 (.take 7 (.take 8 (.take 9 (.take 10 (.take 11 (.take 12 (.take 13 (.take 14 (.take 15 (.take 16 (.take 17 (.take 18 (.take 19 (.exec 20 (.take 21 (.take 22 (.take 23 (.take 24 (.nil)))))))))))))))))))))))))) (by kernel_rfl) (by kernel_rfl) (by kernel_rfl) ?_
  intro w0 hb0 hz0
  have BQ0 := Lib.hid hb0
  refine wpOrd_exec (o := ⟨_, _, _, _, _, _⟩) rfl rfl (fun K hK => ?_)
  go_simp
  (with_reducible refine (lives11_any _).mono ?_)
  rintro _ wa ⟨rfl, hba⟩
  go_wp2_with fail
  refine hK _ _ (hba.mono (Nat.le_of_eq hz0.symm)) ?_
  clear hK K
  have BQ1 := Lib.hid (BQ0.out.trans (hba.mono (Nat.le_of_eq hz0.symm)))
  clear hb0 hz0 hba BQ0
  have y0 := fun W (hW : Below w3.heap.size wa W) => (show W.cell? ⟨w.heap.size, 0, none⟩ = some (.string ⟨e.nm.toArray⟩) from ((X0_11.out.below (BQ1.out.trans hW) X0_11.out.lt).cell 0).trans rfl)
  have y1 := fun W (hW : Below w3.heap.size wa W) => (show W.cell? ⟨w.heap.size, 1, none⟩ = some (.slice A e.ats.length c) from ((X0_11.out.below (BQ1.out.trans hW) X0_11.out.lt).cell 1).trans rfl)
  have y2 := fun W (hW : Below w3.heap.size wa W) => (show W.cell? ⟨w.heap.size, 2, none⟩ = some (.string ⟨e.tx.toArray⟩) from ((X0_11.out.below (BQ1.out.trans hW) X0_11.out.lt).cell 2).trans rfl)
  have y3 := fun W (hW : Below w3.heap.size wa W) => (show W.cell? ⟨w.heap.size, 3, none⟩ = some (.slice B e.kids.length d) from ((X0_11.out.below (BQ1.out.trans hW) X0_11.out.lt).cell 3).trans rfl)
  iterate 3 (refine wpOrd_take (o := ⟨_, _, _, _, _, _⟩) (v := ?_) rfl rfl ?_ ?_; rotate_left; (focus (intro W hW; go_simp; first | done | with_reducible rfl)); simp only [Act.put, List.setIfInBounds_toArray, List.set_cons_zero, List.set_cons_succ])
  clear y0 y1 y2 y3
  have CN := Lib.hid (link11_any e A B c d wa S (em_bel F0_10.out BQ1.out) HSM.out)
  simp only [emV] at CN
  refine wpOrd_exec (o := ⟨_, _, _, _, _, _⟩) rfl rfl (fun K hK => ?_)
  go_simp
  (with_reducible refine (CN.out).mono ?_)
  rintro _ wb ⟨rfl, hbb⟩
  go_wp2_with fail
  refine hK _ _ (hbb.mono BQ1.out.size) ?_
  clear hK K CN
  have BQ2 := Lib.hid (BQ1.out.trans (hbb.mono BQ1.out.size))
  clear hbb
  have CN := Lib.hid (refLink11_any e A B c d wb S (em_bel F0_10.out BQ2.out) HSM.out)
  simp only [emV] at CN
  refine wpOrd_exec (o := ⟨_, _, _, _, _, _⟩) rfl rfl (fun K hK => ?_)
  go_simp
  (with_reducible refine (CN.out).mono ?_)
  rintro _ wc2 ⟨rfl, hbb⟩
  go_wp2_with fail
  refine hK _ _ (hbb.mono BQ2.out.size) ?_
  clear hK K CN
  have BQ3 := Lib.hid (BQ2.out.trans (hbb.mono BQ2.out.size))
  clear hbb
  have y0 := fun W (hW : Below w3.heap.size wc2 W) => (show W.cell? ⟨w.heap.size, 0, none⟩ = some (.string ⟨e.nm.toArray⟩) from ((X0_11.out.below (BQ3.out.trans hW) X0_11.out.lt).cell 0).trans rfl)
  have y1 := fun W (hW : Below w3.heap.size wc2 W) => (show W.cell? ⟨w.heap.size, 1, none⟩ = some (.slice A e.ats.length c) from ((X0_11.out.below (BQ3.out.trans hW) X0_11.out.lt).cell 1).trans rfl)
  have y2 := fun W (hW : Below w3.heap.size wc2 W) => (show W.cell? ⟨w.heap.size, 2, none⟩ = some (.string ⟨e.tx.toArray⟩) from ((X0_11.out.below (BQ3.out.trans hW) X0_11.out.lt).cell 2).trans rfl)
  have y3 := fun W (hW : Below w3.heap.size wc2 W) => (show W.cell? ⟨w.heap.size, 3, none⟩ = some (.slice B e.kids.length d) from ((X0_11.out.below (BQ3.out.trans hW) X0_11.out.lt).cell 3).trans rfl)
  iterate 14 (refine wpOrd_take (o := ⟨_, _, _, _, _, _⟩) (v := ?_) rfl rfl ?_ ?_; rotate_left; (focus (intro W hW; go_simp; first | done | with_reducible rfl)); simp only [Act.put, List.setIfInBounds_toArray, List.set_cons_zero, List.set_cons_succ])
  clear y0 y1 y2 y3
  have CN := Lib.hid (link11_any e A B c d wc2 S (em_bel F0_10.out BQ3.out) HSM.out)
  simp only [emV] at CN
  refine wpOrd_exec (o := ⟨_, _, _, _, _, _⟩) rfl rfl (fun K hK => ?_)
  go_simp
  (with_reducible refine (CN.out).mono ?_)
  rintro _ wd ⟨rfl, hbb⟩
  go_wp2_with fail
  refine hK _ _ (hbb.mono BQ3.out.size) ?_
  clear hK K CN
  have BQ4 := Lib.hid (BQ3.out.trans (hbb.mono BQ3.out.size))
  clear hbb
  iterate 4 (refine wpOrd_take (o := ⟨_, _, _, _, _, _⟩) (v := ?_) rfl rfl ?_ ?_; rotate_left; (focus (intro W hW; go_simp; first | done | with_reducible rfl)); simp only [Act.put, List.setIfInBounds_toArray, List.set_cons_zero, List.set_cons_succ])
  refine wpOrd_nil ?_
  go_wp2_with fail
  go_ret
  exact ⟨by first | rfl | simp, bel_step BW_12.out BQ4.out⟩
end Go.Proofs.YtjmmgekildlckaaGreat
