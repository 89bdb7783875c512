/-
  The walks of the statements on feeds of the kind Atom (printed by gen_atg.py).
-/
import Derived.Test.YtjmmgekildlckaaGreatDoorAtF
namespace Go.Proofs.YtjmmgekildlckaaGreatDoor
open Go.ChangeShapes Go.WideShapes Go.ChangeAt Go.Deep
open Go.RowKit Go.Nst
set_option maxRecDepth 100000
set_option linter.unusedVariables false
set_option linter.unusedSimpArgs false

theorem smA_le {n m : Nat} (h : m ≤ n) {e : Elm} (hs : SmE n e) : SmE m e := by
  obtain ⟨d, rfl⟩ : ∃ d, n = m + d := ⟨n - m, by omega⟩
  induction d with
  | zero => exact hs
  | succ d ih => exact ih (by omega) (sm_down hs)
theorem cntL_lenA : ∀ (l : List Elm) (d : Nat) (m : Int), d < 40 → 0 < m → 0 < cntL l d m → (l.length : Int) < m
  | [], d, m, hd, hm, h => by simpa using hm
  | k :: ks, d, m, hd, hm, h => by
    simp only [cntL] at h
    rw [if_pos ⟨hm, hd⟩] at h
    have h1 := cnt_mono k (d + 1) m
    by_cases h2 : 0 < cntE k (d + 1) m
    · have := cntL_lenA ks d _ hd h2 h
      simp only [List.length_cons]
      omega
    · rw [cntL_stop _ _ _ (by omega)] at h
      exact absurd h h2
theorem kids_leA {e : Elm} (h : 0 < cntE e 1 6000) : e.kids.length ≤ 6000 := by
  obtain ⟨nm, ats, tx, l⟩ := e
  simp only [cntE] at h
  have ha := atsum_pos ats
  by_cases h0 : 0 < (6000 : Int) - 1 - (tx.length : Int) - (nm.length : Int) - (ats.length : Int) - atsum ats
  · have := cntL_lenA l 1 _ (by omega) h0 h
    show l.length ≤ 6000
    omega
  · rw [cntL_stop _ _ _ (by omega)] at h
    exact absurd h h0
/-- not too large: the texts are short, the kids not many -/
theorem LargeA_any (e : Elm) (A B : Option Addr) (c d : Nat) (w : World) (S : Nat → Prop) (he : EmF w S e A c B d) :
    Calls Tryz.prog 4 #[.agg (emV e A e.ats.length c B e.kids.length d)] w fun e' w' => (∃ b, e' = .returned (.bool b) ∧ (b = false → SmE 12 e ∧ e.kids.length ≤ 6000)) ∧ Below w.heap.size w w' := by
  have B0 := bel_alloc (Below.refl w.heap.size w) (.cells (emV e A e.ats.length c B e.kids.length d) 25)
  have HC := Lib.hid (show Calls Tryz.prog 10 #[.agg (emV e A e.ats.length c B e.kids.length d), .int .i64 1, .int .i64 6000] _ _ from count9_any e A B c d 1 6000 _ S (by omega) (by omega) (by omega) (em_bel he B0))
  have HP : Hid (decide (cntE e 1 6000 ≤ 0) = false → SmE 12 e ∧ e.kids.length ≤ 6000) := Lib.hid (fun h => ⟨cnt_pos 12 e 1 6000 (by omega) (by omega) (Int.not_le.1 (of_decide_eq_false h)), kids_leA (Int.not_le.1 (of_decide_eq_false h))⟩)
  obtain ⟨hc1, hc2⟩ := he.hc
  obtain ⟨hd1, hd2⟩ := he.hd
  clear he
  generalize cntE e 1 6000 = z at *
  simp only [emV] at *
  go_enter Tryz.func4, Tryz.ntmps4
  go_wp2_with fail
  (with_reducible refine (HC.out).mono ?_)
  rintro e' w2 ⟨rfl, hb2⟩
  go_wp2_with fail
  go_ret
  exact ⟨⟨_, rfl, HP.out⟩, bel_step B0 hb2⟩
theorem atom_rss {e : Elm} (h : (readA e).isSome = true) : (readD e).isSome = false := by
  unfold readA at h
  by_cases h1 : shortD e.nm = sFeedA
  · unfold readD
    rw [if_neg (by rw [h1]; rintro ⟨_, h2⟩; exact absurd h2 (by decide))]
    rfl
  · rw [if_neg h1] at h
    cases h
set_option maxHeartbeats 16000000 in
theorem atomReads_walk (e : Elm) (A B : Option Addr) (c d : Nat) (m : Int) (w : World) (S : Nat → Prop) (he : EmF w S e A c B d) (hM : MM m w) : Calls Tryz.prog 3 #[.agg (emV e A e.ats.length c B e.kids.length d)] w (RetTrue w) := by
  have b0 := bel_alloc (Below.refl w.heap.size w) (.cells (emV e A e.ats.length c B e.kids.length d) 25)
  have HL := Lib.hid (LargeA_any e A B c d _ S (em_bel he b0))
  have F0_1 := Lib.hid (em_bel he b0)
  have X0_2 := Lib.hid (Blk.new w 25 (emV e A e.ats.length c B e.kids.length d))
  have BW_3 := Lib.hid (b0)
  have MX_4 := Lib.hid (hM.keep b0)
  obtain ⟨hca, hcb⟩ := he.hc
  obtain ⟨hda, hdb⟩ := he.hd
  clear he hM b0
  simp only [emV] at HL F0_1 X0_2 BW_3 MX_4 ⊢
  have hx := @atom_rss e
  obtain ⟨o, ho⟩ : ∃ o, o = readA e := ⟨_, rfl⟩
  obtain ⟨u, hu⟩ : ∃ u, u = readD e := ⟨_, rfl⟩
  rw [← ho, ← hu] at hx
  have HO := Lib.hid ho
  have HU := Lib.hid hu
  clear ho hu
  obtain ⟨tt, ht⟩ : ∃ tt, tt = o.isSome := ⟨_, rfl⟩
  obtain ⟨tu, htu⟩ : ∃ tu, tu = u.isSome := ⟨_, rfl⟩
  rw [← ht, ← htu] at hx
  have HT := Lib.hid ht
  have HTU := Lib.hid htu
  clear ht htu
  go_enter Tryz.func3, Tryz.ntmps3
  go_wp2_with fail
  (with_reducible refine (HL.out).mono ?_)
  rintro _ w1 ⟨⟨b, rfl, hsm⟩, hb⟩
  have F0_5 := Lib.hid (em_bel F0_1.out hb)
  have X0_6 := Lib.hid (X0_2.out.below hb X0_2.out.lt)
  have BW_7 := Lib.hid (bel_step BW_3.out hb)
  have MX_8 := Lib.hid (MX_4.out.keep hb)
  clear F0_1 X0_2 BW_3 MX_4
  clear hb HL
  cases b with
  | true =>
    go_wp2_with fail
    (with_reducible refine (lives11_any _).mono ?_)
    rintro _ wl ⟨rfl, hbl⟩
    go_wp2_with fail
    go_ret
    exact ⟨rfl, bel_step BW_7.out hbl⟩
  | false =>
  have HSM := Lib.hid (hsm rfl).1
  clear hsm
  have q0 := X0_6.out.cell 0
  have q1 := X0_6.out.cell 1
  have q2 := X0_6.out.cell 2
  have q3 := X0_6.out.cell 3
  simp at q0 q1 q2 q3
  have HC := Lib.hid (Read11_any e A B c d _ S F0_5.out HSM.out)
  rw [← HO.out] at HC
  simp only [emV] at HC
  go_wp2_with fail
  (with_reducible refine (HC.out).mono ?_)
  rintro _ w2 h3
  obtain ⟨A3, n3, c3, rfl, hE, hn31, hn32, hb⟩ := h3
  rw [← HT.out]
  have hbx := bel_alloc hb (.cells #[.string ⟨(o.getD zeroDoc).ti.toArray⟩, .string ⟨(o.getD zeroDoc).li.toArray⟩, .slice A3 n3 c3] 30)
  have F0_9 := Lib.hid (em_bel F0_5.out hbx)
  have X0_10 := Lib.hid (X0_6.out.below hbx X0_6.out.lt)
  have BW_11 := Lib.hid (bel_step BW_7.out hbx)
  have MX_12 := Lib.hid (MX_8.out.keep hbx)
  clear F0_5 X0_6 BW_7 MX_8
  have Da_13 := Lib.hid (hE.bel enP (bel_alloc (Below.refl w2.heap.size w2) (.cells #[.string ⟨(o.getD zeroDoc).ti.toArray⟩, .string ⟨(o.getD zeroDoc).li.toArray⟩, .slice A3 n3 c3] 30)))
  have Ya_14 := Lib.hid (Blk.new w2 30 #[.string ⟨(o.getD zeroDoc).ti.toArray⟩, .string ⟨(o.getD zeroDoc).li.toArray⟩, .slice A3 n3 c3])
  clear hE hb hbx HC q0 q1 q2 q3
  have q0 := X0_10.out.cell 0
  have q1 := X0_10.out.cell 1
  have q2 := X0_10.out.cell 2
  have q3 := X0_10.out.cell 3
  simp at q0 q1 q2 q3
  have HC := Lib.hid (refRead11_any e A B c d _ S F0_9.out HSM.out)
  rw [← HO.out] at HC
  simp only [emV] at HC
  go_wp2_with fail
  (with_reducible refine (HC.out).mono ?_)
  rintro _ w3 h3
  obtain ⟨A4, n4, c4, rfl, hE, hn41, hn42, hb⟩ := h3
  rw [← HT.out]
  have hbx := bel_alloc hb (.cells #[.string ⟨(o.getD zeroDoc).ti.toArray⟩, .string ⟨(o.getD zeroDoc).li.toArray⟩, .slice A4 n4 c4] 30)
  have F0_15 := Lib.hid (em_bel F0_9.out hbx)
  have X0_16 := Lib.hid (X0_10.out.below hbx X0_10.out.lt)
  have BW_17 := Lib.hid (bel_step BW_11.out hbx)
  have MX_18 := Lib.hid (MX_12.out.keep hbx)
  have Da_19 := Lib.hid (Da_13.out.bel enP hbx)
  have Ya_20 := Lib.hid (Ya_14.out.below hbx Ya_14.out.lt)
  clear F0_9 X0_10 BW_11 MX_12 Da_13 Ya_14
  have Db_21 := Lib.hid (hE.bel enP (bel_alloc (Below.refl w3.heap.size w3) (.cells #[.string ⟨(o.getD zeroDoc).ti.toArray⟩, .string ⟨(o.getD zeroDoc).li.toArray⟩, .slice A4 n4 c4] 30)))
  have Yb_22 := Lib.hid (Blk.new w3 30 #[.string ⟨(o.getD zeroDoc).ti.toArray⟩, .string ⟨(o.getD zeroDoc).li.toArray⟩, .slice A4 n4 c4])
  clear hE hb hbx HC q0 q1 q2 q3
  have q0 := X0_16.out.cell 0
  have q1 := X0_16.out.cell 1
  have q2 := X0_16.out.cell 2
  have q3 := X0_16.out.cell 3
  simp at q0 q1 q2 q3
  have HC := Lib.hid (Read10_any e A B c d m _ S F0_15.out HSM.out MX_18.out)
  rw [← HU.out] at HC
  simp only [emV] at HC
  go_wp2_with fail
  (with_reducible refine (HC.out).mono ?_)
  rintro _ w4 h3
  obtain ⟨A5, n5, c5, rfl, hE, hn51, hn52, hb⟩ := h3
  rw [← HTU.out]
  have hbx := bel_alloc hb (.cells #[.string ⟨(u.getD zeroDoc).ti.toArray⟩, .string ⟨(u.getD zeroDoc).li.toArray⟩, .slice A5 n5 c5] 30)
  have F0_23 := Lib.hid (em_bel F0_15.out hbx)
  have X0_24 := Lib.hid (X0_16.out.below hbx X0_16.out.lt)
  have BW_25 := Lib.hid (bel_step BW_17.out hbx)
  have MX_26 := Lib.hid (MX_18.out.keep hbx)
  have Da_27 := Lib.hid (Da_19.out.bel enP hbx)
  have Ya_28 := Lib.hid (Ya_20.out.below hbx Ya_20.out.lt)
  have Db_29 := Lib.hid (Db_21.out.bel enP hbx)
  have Yb_30 := Lib.hid (Yb_22.out.below hbx Yb_22.out.lt)
  clear F0_15 X0_16 BW_17 MX_18 Da_19 Ya_20 Db_21 Yb_22
  have Dz_31 := Lib.hid (hE.bel enP (bel_alloc (Below.refl w4.heap.size w4) (.cells #[.string ⟨(u.getD zeroDoc).ti.toArray⟩, .string ⟨(u.getD zeroDoc).li.toArray⟩, .slice A5 n5 c5] 30)))
  have Yz_32 := Lib.hid (Blk.new w4 30 #[.string ⟨(u.getD zeroDoc).ti.toArray⟩, .string ⟨(u.getD zeroDoc).li.toArray⟩, .slice A5 n5 c5])
  clear hE hb hbx HC q0 q1 q2 q3
  have hoo : (tt == tt) = true := by simp
  go_wp2_with fail
  (with_reducible refine (lives11_any _).mono ?_)
  rintro _ w5 ⟨rfl, hb⟩
  have BW_33 := Lib.hid (bel_step BW_25.out hb)
  have Da_34 := Lib.hid (Da_27.out.bel enP hb)
  have Ya_35 := Lib.hid (Ya_28.out.below hb Ya_28.out.lt)
  have Db_36 := Lib.hid (Db_29.out.bel enP hb)
  have Yb_37 := Lib.hid (Yb_30.out.below hb Yb_30.out.lt)
  clear BW_25 Da_27 Ya_28 Db_29 Yb_30
  clear hb
  have t0 := Ya_35.out.cell 0
  have t1 := Ya_35.out.cell 1
  have t2 := Ya_35.out.cell 2
  have u0 := Yb_37.out.cell 0
  have u1 := Yb_37.out.cell 1
  have u2 := Yb_37.out.cell 2
  simp at t0 t1 t2 u0 u1 u2
  have HC := Lib.hid (refSame10_any (o.getD zeroDoc) (o.getD zeroDoc) A3 A4 n3 n4 c3 c4 _ _ _ Da_34.out Db_36.out ⟨hn31, hn32⟩ ⟨hn41, hn42⟩)
  rw [show decide (o.getD zeroDoc = o.getD zeroDoc) = true by simp] at HC
  go_wp2_with fail
  (with_reducible refine (HC.out).mono ?_)
  rintro _ w6 ⟨rfl, hb⟩
  clear t0 t1 t2 u0 u1 u2 HC
  cases tt with
  | false =>
    go_wp2_with fail
    go_ret
    exact ⟨rfl, bel_step BW_33.out hb⟩
  | true =>
    obtain rfl : tu = false := hx rfl
    go_wp2_with fail
    go_ret
    exact ⟨rfl, bel_step BW_33.out hb⟩
theorem entA_good {e : Elm} {x : Ent} (h : entA e = some x) : x.gu ≠ [] := by
  unfold entA at h
  by_cases h0 : guidA e = []
  · rw [if_pos h0] at h; cases h
  · rw [if_neg h0] at h
    have h := Option.some.inj h
    have e1 : x.gu = guidA e := by rw [← h]
    rw [e1]
    exact h0
theorem guA_some (e : Elm) : (((entA e).getD zeroEnt).gu == []) = !(entA e).isSome := by
  cases h : entA e with
  | none => rfl
  | some x =>
    have := entA_good h
    simpa using this
theorem lnkL_len : ∀ l : List Elm, (lnkL l).length ≤ 512
  | [] => by simp [lnkL]
  | k :: r => by
    simp only [lnkL]
    cases hrefD k with
    | none => exact lnkL_len r
    | some x => have := shortT_len x 512 (by omega); show (shortT x 512).length ≤ 512; omega
end Go.Proofs.YtjmmgekildlckaaGreatDoor
