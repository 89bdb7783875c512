/-
  AtomMore: the plain law and the walk (printed by gen_ati.py).
-/
import Derived.Test.YtjmmgekildlckaaAtG
namespace Go.Proofs.Ytjmmgekildlckaa
open Go.ChangeShapes Go.WideShapes Go.ChangeAt Go.Deep
open Go.RowKit Go.Nst
set_option maxRecDepth 100000
set_option linter.unusedVariables false
set_option linter.unusedSimpArgs false

/-- an element with a kid more at its end -/
def moreE (e q : Elm) : Elm := .mk e.nm e.ats e.tx (e.kids ++ [q])
theorem more_kids (e q : Elm) (s : List UInt8) : kidsD (moreE e q) s = kidsD e s ++ if shortD q.nm == s then [q] else [] := by
  unfold kidsD kidsL
  rw [show (moreE e q).kids = e.kids ++ [q] from rfl, List.filter_append]
  by_cases h : (shortD q.nm == s) = true
  · simp [h]
  · simp [h]
theorem more_other {e q : Elm} {s t : List UInt8} (h : shortD q.nm = s) (ht : (s == t) = false) : kidsD (moreE e q) t = kidsD e t := by
  rw [more_kids, h, ht]
  simp
theorem ents_more (l : List Elm) (q : Elm) : (entsA l).length ≤ (entsA (l ++ [q])).length ∧ (entsA (l ++ [q])).length ≤ (entsA l).length + 1 ∧ (entsA (l ++ [q])).take (entsA l).length = entsA l := by
  unfold entsA
  rw [List.filterMap_append]
  generalize l.filterMap entA = a
  have hb : ([q].filterMap entA).length ≤ 1 := List.length_filterMap_le _ _
  generalize [q].filterMap entA = b at *
  refine ⟨by simp only [List.length_take, List.length_append]; omega, by simp only [List.length_take, List.length_append]; omega, ?_⟩
  rw [List.take_take, List.length_take, Nat.min_eq_left (by omega)]
  rw [List.take_append_of_le_length (by omega)]
  rw [List.take_eq_take_iff]
  omega
/-- what a kid more at the end leaves as it was -/
theorem read_more {e q : Elm} (h : shortD q.nm = sEntA) : (readA (moreE e q)).isSome = (readA e).isSome ∧
    ((readA e).getD zeroDoc).en.length ≤ ((readA (moreE e q)).getD zeroDoc).en.length ∧ ((readA (moreE e q)).getD zeroDoc).en.length ≤ ((readA e).getD zeroDoc).en.length + 1 ∧
    ((readA (moreE e q)).getD zeroDoc).en.take ((readA e).getD zeroDoc).en.length = ((readA e).getD zeroDoc).en ∧ ((readA (moreE e q)).getD zeroDoc).ti = ((readA e).getD zeroDoc).ti ∧ ((readA (moreE e q)).getD zeroDoc).li = ((readA e).getD zeroDoc).li := by
  unfold readA
  rw [show (moreE e q).nm = e.nm from rfl]
  by_cases h0 : shortD e.nm = sFeedA
  · rw [if_pos h0, if_pos h0]
    have h1 : kidsD (moreE e q) sTitA = kidsD e sTitA := more_other h (by decide)
    have h2 : kidsD (moreE e q) sLnk = kidsD e sLnk := more_other h (by decide)
    have h3 : kidsD (moreE e q) sEntA = kidsD e sEntA ++ [q] := by rw [more_kids, h]; simp
    simp only [Option.isSome_some, Option.getD_some, h3]
    obtain ⟨g1, g2, g3⟩ := ents_more (kidsD e sEntA) q
    refine ⟨trivial, g1, g2, g3, ?_, ?_⟩
    · unfold fieldD kidD
      rw [h1]
    · unfold lnkD
      rw [h2]
  · rw [if_neg h0, if_neg h0]
    refine ⟨rfl, Nat.le_refl _, by simp [zeroDoc], by simp [zeroDoc], rfl, rfl⟩
theorem read_le (e : Elm) : ((readA e).getD zeroDoc).en.length ≤ 256 := by
  unfold readA
  split
  · exact entsA_le _
  · simp [zeroDoc]
theorem more_len (e q : Elm) : (moreE e q).kids.length = e.kids.length + 1 := by
  show (e.kids ++ [q]).length = _
  simp
theorem more_sm {e q : Elm} {n : Nat} (h : SmE (n + 1) e) (hq : SmE n q) : SmE (n + 1) (moreE e q) :=
  ⟨h.1, h.2.1, h.2.2.1, fun k hk => by
    rcases List.mem_append.1 (show k ∈ e.kids ++ [q] from hk) with h1 | h1
    · exact h.2.2.2 k h1
    · obtain rfl : k = q := by simpa using h1
      exact hq⟩
section
variable {α : Type} {sz : Nat} {P : World → (Nat → Prop) → Array Value → α → Prop} {w : World} {S : Nat → Prop} {A : Option Addr} {k n : Nat} {l : List α}
theorem RwA.takeA (h : RwA sz P w S A k l) (hn : n ≤ k) : RwA sz P w S A n (l.take n) := by
  obtain ⟨hk, V, hA, hq⟩ := h
  refine ⟨by rw [List.length_take]; omega, V, fun h0 => ?_, fun i x hi => ?_⟩
  · obtain ⟨b, off, e, hb, hlt, hc⟩ := hA (by omega)
    exact ⟨b, off, e, hb, hlt, fun i j u hi hu => hc i j u (by omega) hu⟩
  · rw [List.getElem?_take] at hi
    split at hi
    · exact hq i x hi
    · cases hi
end
set_option maxHeartbeats 16000000 in
theorem atomMore_walk (e q : Elm) (A B A2 B2 : Option Addr) (c d c2 d2 : Nat) (w : World) (S : Nat → Prop) (he : EmF w S e A c B d) (hq : EmF w S q A2 c2 B2 d2) : Calls Try.prog 3 #[.agg (emV e A e.ats.length c B e.kids.length d), .agg (emV q A2 q.ats.length c2 B2 q.kids.length d2)] w (RetTrue w) := by
  have b0 := bel_alloc (bel_alloc (Below.refl w.heap.size w) (.cells (emV e A e.ats.length c B e.kids.length d) 25)) (.cells (emV q A2 q.ats.length c2 B2 q.kids.length d2) 25)
  have he1 := em_wide (S' := fun b => b < w.heap.size) he (fun b h k => k)
  have hq1 := em_wide (S' := fun b => b < w.heap.size) hq (fun b h k => k)
  have HL := Lib.hid (LargeA_any e A B c d _ _ (em_bel he1 b0))
  have HL2 := Lib.hid (fun W (h : Below w.heap.size w W) => LargeA_any q A2 B2 c2 d2 W _ (em_bel hq1 h))
  have hnm := hq.hn
  have HS := Lib.hid (fun W => refShort9_any q.nm W (by omega))
  have F0_1 := Lib.hid (em_bel he1 b0)
  have G0_2 := Lib.hid (em_bel hq1 b0)
  have x1 := Blk.new (w.alloc (.cells (emV e A e.ats.length c B e.kids.length d) 25)) 25 (emV q A2 q.ats.length c2 B2 q.kids.length d2)
  rw [show (w.alloc (.cells (emV e A e.ats.length c B e.kids.length d) 25)).heap.size = w.heap.size + 1 by simp] at x1
  have X0_3 := Lib.hid ((Blk.new w 25 (emV e A e.ats.length c B e.kids.length d)).alloc (.cells (emV q A2 q.ats.length c2 B2 q.kids.length d2) 25))
  have X1_4 := Lib.hid (x1)
  have BW_5 := Lib.hid (b0)
  have HRM := Lib.hid (fun (h : shortD q.nm = sEntA) => read_more (e := e) h)
  obtain ⟨hca, hcb⟩ := he.hc
  obtain ⟨hda, hdb⟩ := he.hd
  obtain ⟨hqa, hqb⟩ := hq.hc
  obtain ⟨hra, hrb⟩ := hq.hd
  clear he hq he1 hq1 b0 x1 hnm
  obtain ⟨sh, hsh⟩ : ∃ sh, sh = shortD q.nm := ⟨_, rfl⟩
  rw [← hsh] at HS
  rw [← hsh] at HRM
  simp only [emV] at HL HL2 F0_1 G0_2 X0_3 X1_4 BW_5 ⊢
  clear hsh
  go_enter Try.func3, Try.ntmps3
  go_wp2_with fail
  (with_reducible refine (HL.out).mono ?_)
  rintro _ w1 ⟨⟨b, rfl, hsm⟩, hb⟩
  have F0_6 := Lib.hid (em_bel F0_1.out hb)
  have G0_7 := Lib.hid (em_bel G0_2.out hb)
  have X0_8 := Lib.hid (X0_3.out.below hb X0_3.out.lt)
  have X1_9 := Lib.hid (X1_4.out.below hb X1_4.out.lt)
  have BW_10 := Lib.hid (bel_step BW_5.out hb)
  clear F0_1 G0_2 X0_3 X1_4 BW_5
  clear hb HL
  cases b with
  | true =>
    go_wp2_with fail
    (with_reducible refine (lives11_any _).mono ?_)
    rintro _ wl ⟨rfl, hbl⟩
    go_wp2_with fail
    go_ret
    exact ⟨rfl, bel_step BW_10.out hbl⟩
  | false =>
  have HSM := Lib.hid (hsm rfl)
  clear hsm
  have u0 := X1_9.out.cell 0
  have u1 := X1_9.out.cell 1
  have u2 := X1_9.out.cell 2
  have u3 := X1_9.out.cell 3
  simp at u0 u1 u2 u3
  have HC := Lib.hid (HL2.out _ BW_10.out)
  go_wp2_with fail
  (with_reducible refine (HC.out).mono ?_)
  rintro _ w2 ⟨⟨b, rfl, hsm⟩, hb⟩
  have F0_11 := Lib.hid (em_bel F0_6.out hb)
  have G0_12 := Lib.hid (em_bel G0_7.out hb)
  have X0_13 := Lib.hid (X0_8.out.below hb X0_8.out.lt)
  have X1_14 := Lib.hid (X1_9.out.below hb X1_9.out.lt)
  have BW_15 := Lib.hid (bel_step BW_10.out hb)
  clear F0_6 G0_7 X0_8 X1_9 BW_10
  clear hb HL2 HC u0 u1 u2 u3
  cases b with
  | true =>
    go_wp2_with fail
    (with_reducible refine (lives11_any _).mono ?_)
    rintro _ wl ⟨rfl, hbl⟩
    go_wp2_with fail
    go_ret
    exact ⟨rfl, bel_step BW_15.out hbl⟩
  | false =>
  have HSQ := Lib.hid (hsm rfl)
  clear hsm
  have u0 := X1_14.out.cell 0
  have u1 := X1_14.out.cell 1
  have u2 := X1_14.out.cell 2
  have u3 := X1_14.out.cell 3
  simp at u0 u1 u2 u3
  by_cases hsh : sh = [101, 110, 116, 114, 121]
  case neg =>
    have hsb : (sh == [101, 110, 116, 114, 121]) = false := by simpa using hsh
    go_wp2_with fail
    (with_reducible refine (HS.out _).mono ?_)
    rintro _ wz ⟨rfl, rfl⟩
    clear u0 u1 u2 u3
    go_wp2_with fail
    (with_reducible refine (lives11_any _).mono ?_)
    rintro _ wl ⟨rfl, hbl⟩
    go_wp2_with fail
    go_ret
    exact ⟨rfl, bel_step BW_15.out hbl⟩
  case pos =>
  subst hsh
  obtain ⟨m1, m2, m3, m4, m5, m6⟩ := HRM.out rfl
  have M4 := Lib.hid m4
  have M5 := Lib.hid m5
  have M6 := Lib.hid m6
  clear m4 m5 m6 HRM
  have HSE := Lib.hid HSM.out.1
  have HS2 : Hid (SmE 12 (moreE e q)) := Lib.hid (more_sm HSM.out.1 (sm_down HSQ.out.1))
  have hkl : e.kids.length ≤ 6000 := HSM.out.2
  obtain ⟨o, ho⟩ : ∃ o, o = readA e := ⟨_, rfl⟩
  obtain ⟨o2, ho2⟩ : ∃ o2, o2 = readA (moreE e q) := ⟨_, rfl⟩
  have HO := Lib.hid ho
  have HO2 := Lib.hid ho2
  rw [← ho, ← ho2] at m1 m2 m3 M4
  rw [← ho, ← ho2] at M5 M6
  clear ho ho2 HSM HSQ
  obtain ⟨tt, ht⟩ : ∃ tt, tt = o.isSome := ⟨_, rfl⟩
  have HT := Lib.hid ht
  have HT2 : Hid (tt = o2.isSome) := Lib.hid (by rw [ht, m1])
  clear ht m1
  have q0 := X0_13.out.cell 0
  have q1 := X0_13.out.cell 1
  have q2 := X0_13.out.cell 2
  have q3 := X0_13.out.cell 3
  simp at q0 q1 q2 q3
  have HC := Lib.hid (Read11_any e A B c d _ _ F0_11.out HSE.out)
  rw [← HO.out] at HC
  simp only [emV] at HC
  go_wp2_with fail
  (with_reducible refine (HS.out _).mono ?_)
  rintro _ wz ⟨rfl, rfl⟩
  go_wp2_with fail
  (with_reducible refine (HC.out).mono ?_)
  rintro _ w3 h3
  obtain ⟨A3, n3, c3, rfl, hE, hn31, hn32, hb⟩ := h3
  rw [← HT.out]
  have hw3 : w.heap.size + 2 ≤ w3.heap.size := by have h1 := X1_14.out.lt; have h2 := hb.size; omega
  have xv := (X0_13.out.below hb X0_13.out.lt).alloc (.cells #[.string ⟨(o.getD zeroDoc).ti.toArray⟩, .string ⟨(o.getD zeroDoc).li.toArray⟩, .slice A3 n3 c3] 31)
  have v0 := xv.cell 0
  have v1 := xv.cell 1
  have v2 := xv.cell 2
  have v3 := xv.cell 3
  simp at v0 v1 v2 v3
  clear xv
  have hbx := bel_alloc (bel_alloc hb (.cells #[.string ⟨(o.getD zeroDoc).ti.toArray⟩, .string ⟨(o.getD zeroDoc).li.toArray⟩, .slice A3 n3 c3] 31)) (.cells #[.string ⟨e.nm.toArray⟩, .slice A e.ats.length c, .string ⟨e.tx.toArray⟩, .slice B e.kids.length d] 25)
  have F0_16 := Lib.hid (em_bel F0_11.out hbx)
  have G0_17 := Lib.hid (em_bel G0_12.out hbx)
  have X0_18 := Lib.hid (X0_13.out.below hbx X0_13.out.lt)
  have X1_19 := Lib.hid (X1_14.out.below hbx X1_14.out.lt)
  have BW_20 := Lib.hid (bel_step BW_15.out hbx)
  clear F0_11 G0_12 X0_13 X1_14 BW_15
  have Da_21 := Lib.hid ((hE.wide enP (S' := fun b => b < w3.heap.size) (fun b _ h => h)).bel enP (bel_alloc (bel_alloc (Below.refl w3.heap.size w3) (.cells #[.string ⟨(o.getD zeroDoc).ti.toArray⟩, .string ⟨(o.getD zeroDoc).li.toArray⟩, .slice A3 n3 c3] 31)) (.cells #[.string ⟨e.nm.toArray⟩, .slice A e.ats.length c, .string ⟨e.tx.toArray⟩, .slice B e.kids.length d] 25)))
  have y1 := (Blk.new w3 31 #[.string ⟨(o.getD zeroDoc).ti.toArray⟩, .string ⟨(o.getD zeroDoc).li.toArray⟩, .slice A3 n3 c3]).alloc (.cells #[.string ⟨e.nm.toArray⟩, .slice A e.ats.length c, .string ⟨e.tx.toArray⟩, .slice B e.kids.length d] 25)
  have y2 := Blk.new (w3.alloc (.cells #[.string ⟨(o.getD zeroDoc).ti.toArray⟩, .string ⟨(o.getD zeroDoc).li.toArray⟩, .slice A3 n3 c3] 31)) 25 #[.string ⟨e.nm.toArray⟩, .slice A e.ats.length c, .string ⟨e.tx.toArray⟩, .slice B e.kids.length d]
  rw [show (w3.alloc (.cells #[.string ⟨(o.getD zeroDoc).ti.toArray⟩, .string ⟨(o.getD zeroDoc).li.toArray⟩, .slice A3 n3 c3] 31)).heap.size = w3.heap.size + 1 by simp] at y2
  have Ya_22 := Lib.hid (y1)
  have Z7_23 := Lib.hid (y2)
  have hl3 := hE.len
  obtain ⟨g7, hg7⟩ : ∃ g7, g7 = w3.heap.size + 1 := ⟨_, rfl⟩
  obtain ⟨ga, hga⟩ : ∃ ga, ga = w3.heap.size := ⟨_, rfl⟩
  rw [← hga] at Ya_22
  rw [← hg7] at Z7_23
  have hg7w : w.heap.size + 2 ≤ g7 := by omega
  clear hE hb hbx HC q0 q1 q2 q3 u0 u1 u2 u3 y1 y2
  go_upto_region 5 with fail
  obtain ⟨wr, hwr⟩ : ∃ wr, wr = (w3.alloc (.cells #[.string ⟨(o.getD zeroDoc).ti.toArray⟩, .string ⟨(o.getD zeroDoc).li.toArray⟩, .slice A3 n3 c3] 31)).alloc (.cells #[.string ⟨e.nm.toArray⟩, .slice A e.ats.length c, .string ⟨e.tx.toArray⟩, .slice B e.kids.length d] 25) := ⟨_, rfl⟩
  have hzr : wr.heap.size = g7 + 1 := by rw [hwr, hg7]; simp
  rw [← hwr] at F0_16 G0_17 X0_18 X1_19 BW_20 Da_21 Ya_22 Z7_23
  try simp only [← hwr]
  try simp only [← hg7]
  try simp only [← hga]
  have HZR := Lib.hid hzr
  have hgag : ga < g7 := by omega
  rw [← hga] at Da_21
  clear hwr hzr hga hg7 hw3 v0 v1 v2 v3
  go_cut [] (fun wx => ∃ (Ak : Option Addr) (ck : Nat), Blk wx g7 25 #[.string ⟨e.nm.toArray⟩, .slice A e.ats.length c, .string ⟨e.tx.toArray⟩, .slice Ak (e.kids.length + 1) ck] ∧ e.kids.length + 1 ≤ ck ∧ ck ≤ 9223372036854775807 ∧ Hid (EmA wx (fun b => b < w.heap.size ∨ g7 < b) Ak (e.kids.length + 1) (e.kids ++ [q])) ∧ Below g7 wr wx)
  case first =>
    refine wp_region_ordR (Below g7) (fun _ => Below.refl _ _) (fun _ _ _ => Below.trans) (by kernel_rfl) (.take 1 (.take 2 (.take 4 (.two 0 (.two 3 (.exec 5 (.exec 6 (.take 7 (.exec 8 (.nil))))) 5 (.exec 3 (.exec 6 (.take 7 (.exec 8 (.nil)))))) 5 (.exec 0 (.exec 3 (.exec 6 (.take 7 (.exec 8 (.nil)))))))))) (by kernel_rfl) (by kernel_rfl) (by kernel_rfl) ?_
    obtain ⟨w0, hw0⟩ : ∃ w0, w0 = wr.drew := ⟨_, rfl⟩
    have BQ : Below wr.heap.size wr w0 := by rw [hw0]; exact (Below.refl _ _).drew
    rw [← hw0]
    clear hw0
    have HB0 := Lib.hid BQ
    have hz0 : g7 < w0.heap.size := by have := BQ.size; have := HZR.out; omega
    have XW := X0_18.out.below BQ X0_18.out.lt
    have YW := X1_19.out.below BQ X1_19.out.lt
    have y0 := fun W (hW : Below g7 w0 W) => (show W.cell? ⟨w.heap.size, 3, none⟩ = some (.slice B e.kids.length d) from ((XW.below hW (by omega)).cell 3).trans rfl)
    have y1 := fun W (hW : Below g7 w0 W) => (show W.cell? ⟨w.heap.size + 1, 0, none⟩ = some (.string ⟨q.nm.toArray⟩) from ((YW.below hW (by omega)).cell 0).trans rfl)
    have y2 := fun W (hW : Below g7 w0 W) => (show W.cell? ⟨w.heap.size + 1, 1, none⟩ = some (.slice A2 q.ats.length c2) from ((YW.below hW (by omega)).cell 1).trans rfl)
    have y3 := fun W (hW : Below g7 w0 W) => (show W.cell? ⟨w.heap.size + 1, 2, none⟩ = some (.string ⟨q.tx.toArray⟩) from ((YW.below hW (by omega)).cell 2).trans rfl)
    have y4 := fun W (hW : Below g7 w0 W) => (show W.cell? ⟨w.heap.size + 1, 3, none⟩ = some (.slice B2 q.kids.length d2) from ((YW.below hW (by omega)).cell 3).trans rfl)
    iterate 3 (refine wpOrd_take (o := ⟨_, _, _, _, _, _⟩) (v := ?_) rfl rfl ?_ ?_; rotate_left; (focus (intro W hW; go_simp; first | done | with_reducible rfl)); simp only [Act.put, List.setIfInBounds_toArray, List.set_cons_zero, List.set_cons_succ])
    clear y0 y1 y2 y3 y4 XW YW
    refine wpOrd_two ?_ ?_
    · refine wpOrd_exec (o := ⟨_, _, _, _, _, _⟩) rfl rfl (fun K hK => ?_)
      go_simp
      refine hK _ _ ((Below.refl _ _).alloc (by have := HB0.out.size; have := HZR.out; omega) _) ?_
      clear hK K
      have ho := World.ownsRow_lit (base := wr.heap.size) (e := 25) (size := 4) w0 #[] 0 HB0.out.size (by unfold maxLen; omega) rfl
      obtain ⟨gz1, hgz⟩ : ∃ g, g = w0.heap.size := ⟨_, rfl⟩
      rw [← hgz] at ho
      try simp only [← hgz]
      skip
      clear hgz
      have hbn := bel_step HB0.out (bel_alloc (Below.refl w0.heap.size w0) (.cells #[] 25))
      generalize w0.alloc (.cells #[] 25) = wo2 at *
      have HBx3 := Lib.hid hbn
      have OWx4 : Hid (EmO wo2 wr.heap.size (fun b => b < w.heap.size) (some ⟨gz1, 0, none⟩) 0 0 []) := Lib.hid ⟨[], ho, rfl, fun _ => #[], fun i j u hi _ => absurd hi (Nat.not_lt_zero i), fun i x hx => by simp at hx⟩
      clear hbn ho
      refine wpOrd_two ?_ ?_
      · have hr : EmR wo2 (fun b => b < w.heap.size ∧ some b ≠ (Value.slice (some ⟨gz1, 0, none⟩) 0 0).ownBlock) B e.kids.length e.kids := (em_bel F0_16.out HBx3.out).hB.r emP (fun b hb _ => ⟨hb, fun he => by
          have := (OWx4.out.lt b he.symm).1
          have := HZR.out
          have hb : b < w.heap.size := hb
          omega⟩)
        refine wpOrd_exec (o := ⟨_, _, _, _, _, _⟩) rfl rfl (fun K hK => ?_)
        refine wp_appZ emP iEms rfl rfl OWx4.out rfl hr (by omega) (by omega) HBx3.out.size ?_
        intro Ak5 ck6 wo7 ho hbk hgk
        try simp only [Nat.zero_add] at ho ⊢
        refine hK _ _ (hbk.mono (by have := HZR.out; omega)) ?_
        clear hK K
        simp only [Act.put, List.setIfInBounds_toArray, List.set_cons_zero, List.set_cons_succ]
        have HBx8 := Lib.hid (HBx3.out.trans hbk)
        have OWx9 := Lib.hid ho
        clear ho hbk hgk hr
        refine wpOrd_exec (o := ⟨_, _, _, _, _, _⟩) rfl rfl (fun K hK => ?_)
        go_simp
        refine hK _ _ ((Below.refl _ _).alloc (by have := HBx8.out.size; have := HZR.out; omega) _) ?_
        clear hK K
        have hlb := Blk.new wo7 25 #[.string ⟨q.nm.toArray⟩, .slice A2 q.ats.length c2, .string ⟨q.tx.toArray⟩, .slice B2 q.kids.length d2]
        obtain ⟨gl10, hgl⟩ : ∃ g, g = wo7.heap.size := ⟨_, rfl⟩
        have hglz : wr.heap.size ≤ gl10 := by rw [hgl]; exact HBx8.out.size
        rw [← hgl] at hlb
        try simp only [← hgl]
        have hob := OWx9.out.bel emP (bel_alloc (Below.refl wo7.heap.size wo7) (.cells #[.string ⟨q.nm.toArray⟩, .slice A2 q.ats.length c2, .string ⟨q.tx.toArray⟩, .slice B2 q.kids.length d2] 25))
        have hne : ∀ g, (Value.slice Ak5 e.kids.length ck6).ownBlock = some g → g < gl10 := fun g hg => by rw [hgl]; exact (OWx9.out.lt g hg).2
        clear hgl
        have hbn := bel_step HBx8.out (bel_alloc (Below.refl wo7.heap.size wo7) (.cells #[.string ⟨q.nm.toArray⟩, .slice A2 q.ats.length c2, .string ⟨q.tx.toArray⟩, .slice B2 q.kids.length d2] 25))
        generalize wo7.alloc (.cells #[.string ⟨q.nm.toArray⟩, .slice A2 q.ats.length c2, .string ⟨q.tx.toArray⟩, .slice B2 q.kids.length d2] 25) = wo11 at *
        have HBx12 := Lib.hid hbn
        have LTx13 := Lib.hid hlb
        clear hbn hlb
        have OWx14 := Lib.hid hob
        have hne0 := hne
        clear hob hne
        have hr : EmR wo11 (fun b => b < w.heap.size ∧ some b ≠ (Value.slice Ak5 e.kids.length ck6).ownBlock) (some ⟨gl10, 0, none⟩) 1 [q] := RwR.blk1 LTx13.out (em_wide (em_bel G0_17.out HBx12.out) (fun b hb _ => ⟨hb, fun he => by
          have := (OWx14.out.lt b he.symm).1
          have := HZR.out
          have hb : b < w.heap.size := hb
          omega⟩) |> em_make)
        refine wpOrd_exec (o := ⟨_, _, _, _, _, _⟩) rfl rfl (fun K hK => ?_)
        refine wp_appZ emP iEms rfl rfl OWx14.out rfl hr (by omega) (by omega) HBx12.out.size ?_
        intro Ak15 ck16 wo17 ho hbk hgk
        try simp only [Nat.zero_add] at ho ⊢
        refine hK _ _ (hbk.mono (by have := HZR.out; omega)) ?_
        clear hK K
        simp only [Act.put, List.setIfInBounds_toArray, List.set_cons_zero, List.set_cons_succ]
        have HBx18 := Lib.hid (HBx12.out.trans hbk)
        have OWx19 := Lib.hid ho
        clear ho hbk hgk hr
        iterate 1 (refine wpOrd_take (o := ⟨_, _, _, _, _, _⟩) (v := ?_) rfl rfl ?_ ?_; rotate_left; (focus (intro W hW; go_simp; first | done | with_reducible rfl)); simp only [Act.put, List.setIfInBounds_toArray, List.set_cons_zero, List.set_cons_succ])
        have Z1 := Lib.hid (Z7_23.out.below HBx18.out Z7_23.out.lt)
        have d3 := Z1.out.cell 3
        simp at d3
        have hfz := Z1.out.frozen
        refine wpOrd_exec (o := ⟨_, _, _, _, _, _⟩) rfl rfl (fun K hK => ?_)
        go_simp
        refine hK _ _ ((Below.refl _ _).setCell (by simp) _) ?_
        clear hK K d3
        refine wpOrd_nil ?_
        have hcp1 := OWx19.out.cap.1
        have hcp2 := OWx19.out.cap.2
        have hZ := Z1.out.set_ 3 (.slice Ak15 (e.kids.length + 1) ck16)
        have hOQ := OWx19.out.qs emP (S' := fun b => b < w.heap.size ∨ g7 < b) (fun b h _ => .inl h) (fun b h _ => .inr (by have := HZR.out; omega))
        go_wp2_with fail
        go_meet
        refine ⟨Ak15, ck16, by simpa using hZ, by omega, hcp2, Lib.hid ?_, (HBx18.out.mono (show g7 ≤ wr.heap.size from by have := HZR.out; omega)).setCell (p := ⟨g7, 3, none⟩) (Nat.le_refl _) _⟩
        have hL : ([] ++ e.kids ++ [q] : List Elm) = e.kids ++ [q] := by simp
        rw [← hL]
        exact hOQ.keep emP (fun b hb hlt => by
          have hbn : b ≠ g7 := by
            rcases hb with h | h
            · have h : b < w.heap.size := h
              omega
            · have h : g7 < b := h
              omega
          simp [World.setCell, Array.getElem?_modify, Ne.symm hbn]) (by simp [World.setCell]) (fun b h _ => h)
      · refine wpOrd_exec (o := ⟨_, _, _, _, _, _⟩) rfl rfl (fun K hK => ?_)
        go_simp
        refine hK _ _ ((Below.refl _ _).alloc (by have := HBx3.out.size; have := HZR.out; omega) _) ?_
        clear hK K
        have hlb := Blk.new wo2 25 #[.string ⟨q.nm.toArray⟩, .slice A2 q.ats.length c2, .string ⟨q.tx.toArray⟩, .slice B2 q.kids.length d2]
        obtain ⟨gl20, hgl⟩ : ∃ g, g = wo2.heap.size := ⟨_, rfl⟩
        have hglz : wr.heap.size ≤ gl20 := by rw [hgl]; exact HBx3.out.size
        rw [← hgl] at hlb
        try simp only [← hgl]
        have hob := OWx4.out.bel emP (bel_alloc (Below.refl wo2.heap.size wo2) (.cells #[.string ⟨q.nm.toArray⟩, .slice A2 q.ats.length c2, .string ⟨q.tx.toArray⟩, .slice B2 q.kids.length d2] 25))
        have hne : ∀ g, (Value.slice (some ⟨gz1, 0, none⟩) 0 0).ownBlock = some g → g < gl20 := fun g hg => by rw [hgl]; exact (OWx4.out.lt g hg).2
        clear hgl
        have hbn := bel_step HBx3.out (bel_alloc (Below.refl wo2.heap.size wo2) (.cells #[.string ⟨q.nm.toArray⟩, .slice A2 q.ats.length c2, .string ⟨q.tx.toArray⟩, .slice B2 q.kids.length d2] 25))
        generalize wo2.alloc (.cells #[.string ⟨q.nm.toArray⟩, .slice A2 q.ats.length c2, .string ⟨q.tx.toArray⟩, .slice B2 q.kids.length d2] 25) = wo21 at *
        have HBx22 := Lib.hid hbn
        have LTx23 := Lib.hid hlb
        clear hbn hlb
        have OWx24 := Lib.hid hob
        have hne0 := hne
        clear hob hne
        have hdiff : ∀ g, (Value.slice (some ⟨gz1, 0, none⟩) 0 0).ownBlock = some g → g ≠ gl20 := fun g hg => Nat.ne_of_lt (hne0 g hg)
        have hr : EmR wo21 (fun b => b < w.heap.size ∧ some b ≠ (Value.slice (some ⟨gz1, 0, none⟩) 0 0).ownBlock) B e.kids.length e.kids := (em_bel F0_16.out HBx22.out).hB.r emP (fun b hb _ => ⟨hb, fun he => by
          have := (OWx24.out.lt b he.symm).1
          have := HZR.out
          have hb : b < w.heap.size := hb
          omega⟩)
        refine wpOrd_exec (o := ⟨_, _, _, _, _, _⟩) rfl rfl (fun K hK => ?_)
        refine wp_appZ emP iEms rfl rfl OWx24.out rfl hr (by omega) (by omega) HBx22.out.size ?_
        intro Ak25 ck26 wo27 ho hbk hgk
        try simp only [Nat.zero_add] at ho ⊢
        refine hK _ _ (hbk.mono (by have := HZR.out; omega)) ?_
        clear hK K
        simp only [Act.put, List.setIfInBounds_toArray, List.set_cons_zero, List.set_cons_succ]
        have HBx28 := Lib.hid (HBx22.out.trans hbk)
        have OWx29 := Lib.hid ho
        have LTx30 := Lib.hid (LTx23.out.grown hgk (fun hh => hdiff _ hh.symm rfl))
        clear ho hbk hgk hr
        have hr : EmR wo27 (fun b => b < w.heap.size ∧ some b ≠ (Value.slice Ak25 e.kids.length ck26).ownBlock) (some ⟨gl20, 0, none⟩) 1 [q] := RwR.blk1 LTx30.out (em_wide (em_bel G0_17.out HBx28.out) (fun b hb _ => ⟨hb, fun he => by
          have := (OWx29.out.lt b he.symm).1
          have := HZR.out
          have hb : b < w.heap.size := hb
          omega⟩) |> em_make)
        refine wpOrd_exec (o := ⟨_, _, _, _, _, _⟩) rfl rfl (fun K hK => ?_)
        refine wp_appZ emP iEms rfl rfl OWx29.out rfl hr (by omega) (by omega) HBx28.out.size ?_
        intro Ak31 ck32 wo33 ho hbk hgk
        try simp only [Nat.zero_add] at ho ⊢
        refine hK _ _ (hbk.mono (by have := HZR.out; omega)) ?_
        clear hK K
        simp only [Act.put, List.setIfInBounds_toArray, List.set_cons_zero, List.set_cons_succ]
        have HBx34 := Lib.hid (HBx28.out.trans hbk)
        have OWx35 := Lib.hid ho
        clear ho hbk hgk hr
        iterate 1 (refine wpOrd_take (o := ⟨_, _, _, _, _, _⟩) (v := ?_) rfl rfl ?_ ?_; rotate_left; (focus (intro W hW; go_simp; first | done | with_reducible rfl)); simp only [Act.put, List.setIfInBounds_toArray, List.set_cons_zero, List.set_cons_succ])
        have Z1 := Lib.hid (Z7_23.out.below HBx34.out Z7_23.out.lt)
        have d3 := Z1.out.cell 3
        simp at d3
        have hfz := Z1.out.frozen
        refine wpOrd_exec (o := ⟨_, _, _, _, _, _⟩) rfl rfl (fun K hK => ?_)
        go_simp
        refine hK _ _ ((Below.refl _ _).setCell (by simp) _) ?_
        clear hK K d3
        refine wpOrd_nil ?_
        have hcp1 := OWx35.out.cap.1
        have hcp2 := OWx35.out.cap.2
        have hZ := Z1.out.set_ 3 (.slice Ak31 (e.kids.length + 1) ck32)
        have hOQ := OWx35.out.qs emP (S' := fun b => b < w.heap.size ∨ g7 < b) (fun b h _ => .inl h) (fun b h _ => .inr (by have := HZR.out; omega))
        go_wp2_with fail
        go_meet
        refine ⟨Ak31, ck32, by simpa using hZ, by omega, hcp2, Lib.hid ?_, (HBx34.out.mono (show g7 ≤ wr.heap.size from by have := HZR.out; omega)).setCell (p := ⟨g7, 3, none⟩) (Nat.le_refl _) _⟩
        have hL : ([] ++ e.kids ++ [q] : List Elm) = e.kids ++ [q] := by simp
        rw [← hL]
        exact hOQ.keep emP (fun b hb hlt => by
          have hbn : b ≠ g7 := by
            rcases hb with h | h
            · have h : b < w.heap.size := h
              omega
            · have h : g7 < b := h
              omega
          simp [World.setCell, Array.getElem?_modify, Ne.symm hbn]) (by simp [World.setCell]) (fun b h _ => h)
    · refine wpOrd_exec (o := ⟨_, _, _, _, _, _⟩) rfl rfl (fun K hK => ?_)
      go_simp
      refine hK _ _ ((Below.refl _ _).alloc (by have := HB0.out.size; have := HZR.out; omega) _) ?_
      clear hK K
      have hlb := Blk.new w0 25 #[.string ⟨q.nm.toArray⟩, .slice A2 q.ats.length c2, .string ⟨q.tx.toArray⟩, .slice B2 q.kids.length d2]
      obtain ⟨gl36, hgl⟩ : ∃ g, g = w0.heap.size := ⟨_, rfl⟩
      have hglz : wr.heap.size ≤ gl36 := by rw [hgl]; exact HB0.out.size
      rw [← hgl] at hlb
      try simp only [← hgl]
      clear hgl
      have hbn := bel_step HB0.out (bel_alloc (Below.refl w0.heap.size w0) (.cells #[.string ⟨q.nm.toArray⟩, .slice A2 q.ats.length c2, .string ⟨q.tx.toArray⟩, .slice B2 q.kids.length d2] 25))
      generalize w0.alloc (.cells #[.string ⟨q.nm.toArray⟩, .slice A2 q.ats.length c2, .string ⟨q.tx.toArray⟩, .slice B2 q.kids.length d2] 25) = wo37 at *
      have HBx38 := Lib.hid hbn
      have LTx39 := Lib.hid hlb
      clear hbn hlb
      refine wpOrd_exec (o := ⟨_, _, _, _, _, _⟩) rfl rfl (fun K hK => ?_)
      go_simp
      refine hK _ _ ((Below.refl _ _).alloc (by have := HBx38.out.size; have := HZR.out; omega) _) ?_
      clear hK K
      have ho := World.ownsRow_lit (base := wr.heap.size) (e := 25) (size := 4) wo37 #[] 0 HBx38.out.size (by unfold maxLen; omega) rfl
      obtain ⟨gz40, hgz⟩ : ∃ g, g = wo37.heap.size := ⟨_, rfl⟩
      rw [← hgz] at ho
      try simp only [← hgz]
      have hltz : gl36 < gz40 := by rw [hgz]; exact LTx39.out.lt
      clear hgz
      have hlt := Lib.hid (LTx39.out.alloc (.cells #[] 25))
      have hneL : ∀ g, (Value.slice (some ⟨gz40, 0, none⟩) 0 0).ownBlock = some g → gl36 < g := fun g hg => by injection hg with hg; subst hg; exact hltz
      have hbn := bel_step HBx38.out (bel_alloc (Below.refl wo37.heap.size wo37) (.cells #[] 25))
      generalize wo37.alloc (.cells #[] 25) = wo41 at *
      have HBx42 := Lib.hid hbn
      have OWx43 : Hid (EmO wo41 wr.heap.size (fun b => b < w.heap.size) (some ⟨gz40, 0, none⟩) 0 0 []) := Lib.hid ⟨[], ho, rfl, fun _ => #[], fun i j u hi _ => absurd hi (Nat.not_lt_zero i), fun i x hx => by simp at hx⟩
      clear hbn ho
      have LTx44 := hlt
      have hne0 := hneL
      clear hlt hneL
      have hdiff : ∀ g, (Value.slice (some ⟨gz40, 0, none⟩) 0 0).ownBlock = some g → g ≠ gl36 := fun g hg => Nat.ne_of_gt (hne0 g hg)
      have hr : EmR wo41 (fun b => b < w.heap.size ∧ some b ≠ (Value.slice (some ⟨gz40, 0, none⟩) 0 0).ownBlock) B e.kids.length e.kids := (em_bel F0_16.out HBx42.out).hB.r emP (fun b hb _ => ⟨hb, fun he => by
        have := (OWx43.out.lt b he.symm).1
        have := HZR.out
        have hb : b < w.heap.size := hb
        omega⟩)
      refine wpOrd_exec (o := ⟨_, _, _, _, _, _⟩) rfl rfl (fun K hK => ?_)
      refine wp_appZ emP iEms rfl rfl OWx43.out rfl hr (by omega) (by omega) HBx42.out.size ?_
      intro Ak45 ck46 wo47 ho hbk hgk
      try simp only [Nat.zero_add] at ho ⊢
      refine hK _ _ (hbk.mono (by have := HZR.out; omega)) ?_
      clear hK K
      simp only [Act.put, List.setIfInBounds_toArray, List.set_cons_zero, List.set_cons_succ]
      have HBx48 := Lib.hid (HBx42.out.trans hbk)
      have OWx49 := Lib.hid ho
      have LTx50 := Lib.hid (LTx44.out.grown hgk (fun hh => hdiff _ hh.symm rfl))
      clear ho hbk hgk hr
      have hr : EmR wo47 (fun b => b < w.heap.size ∧ some b ≠ (Value.slice Ak45 e.kids.length ck46).ownBlock) (some ⟨gl36, 0, none⟩) 1 [q] := RwR.blk1 LTx50.out (em_wide (em_bel G0_17.out HBx48.out) (fun b hb _ => ⟨hb, fun he => by
        have := (OWx49.out.lt b he.symm).1
        have := HZR.out
        have hb : b < w.heap.size := hb
        omega⟩) |> em_make)
      refine wpOrd_exec (o := ⟨_, _, _, _, _, _⟩) rfl rfl (fun K hK => ?_)
      refine wp_appZ emP iEms rfl rfl OWx49.out rfl hr (by omega) (by omega) HBx48.out.size ?_
      intro Ak51 ck52 wo53 ho hbk hgk
      try simp only [Nat.zero_add] at ho ⊢
      refine hK _ _ (hbk.mono (by have := HZR.out; omega)) ?_
      clear hK K
      simp only [Act.put, List.setIfInBounds_toArray, List.set_cons_zero, List.set_cons_succ]
      have HBx54 := Lib.hid (HBx48.out.trans hbk)
      have OWx55 := Lib.hid ho
      clear ho hbk hgk hr
      iterate 1 (refine wpOrd_take (o := ⟨_, _, _, _, _, _⟩) (v := ?_) rfl rfl ?_ ?_; rotate_left; (focus (intro W hW; go_simp; first | done | with_reducible rfl)); simp only [Act.put, List.setIfInBounds_toArray, List.set_cons_zero, List.set_cons_succ])
      have Z1 := Lib.hid (Z7_23.out.below HBx54.out Z7_23.out.lt)
      have d3 := Z1.out.cell 3
      simp at d3
      have hfz := Z1.out.frozen
      refine wpOrd_exec (o := ⟨_, _, _, _, _, _⟩) rfl rfl (fun K hK => ?_)
      go_simp
      refine hK _ _ ((Below.refl _ _).setCell (by simp) _) ?_
      clear hK K d3
      refine wpOrd_nil ?_
      have hcp1 := OWx55.out.cap.1
      have hcp2 := OWx55.out.cap.2
      have hZ := Z1.out.set_ 3 (.slice Ak51 (e.kids.length + 1) ck52)
      have hOQ := OWx55.out.qs emP (S' := fun b => b < w.heap.size ∨ g7 < b) (fun b h _ => .inl h) (fun b h _ => .inr (by have := HZR.out; omega))
      go_wp2_with fail
      go_meet
      refine ⟨Ak51, ck52, by simpa using hZ, by omega, hcp2, Lib.hid ?_, (HBx54.out.mono (show g7 ≤ wr.heap.size from by have := HZR.out; omega)).setCell (p := ⟨g7, 3, none⟩) (Nat.le_refl _) _⟩
      have hL : ([] ++ e.kids ++ [q] : List Elm) = e.kids ++ [q] := by simp
      rw [← hL]
      exact hOQ.keep emP (fun b hb hlt => by
        have hbn : b ≠ g7 := by
          rcases hb with h | h
          · have h : b < w.heap.size := h
            omega
          · have h : g7 < b := h
            omega
        simp [World.setCell, Array.getElem?_modify, Ne.symm hbn]) (by simp [World.setCell]) (fun b h _ => h)
  case rest =>
  obtain ⟨Ak, ck, hZc, hck1, hck2, hEM, hBc⟩ := hcut
  have HBC := Lib.hid hBc
  have FE0 := em_keep (w' := wc) (S' := fun b => b < w.heap.size ∨ g7 < b) (fun b hb _ => hBc.block b (by have hb : b < w.heap.size := hb; omega)) hBc.size (fun b hb _ => .inl hb) F0_16.out
  have FE : EmF wc (fun b => b < w.heap.size ∨ g7 < b) (moreE e q) A c Ak ck := ⟨FE0.hn, FE0.ht, FE0.hc, ⟨by rw [more_len]; exact hck1, hck2⟩, ⟨FE0.hs.1, by rw [more_len]; omega⟩, FE0.ha, FE0.hA, by rw [more_len]; exact hEM.out⟩
  have HC := Lib.hid (Read11_any (moreE e q) A Ak c ck wc _ FE HS2.out)
  rw [← HO2.out] at HC
  rw [more_len] at HC
  simp only [emV, show (moreE e q).nm = e.nm from rfl, show (moreE e q).ats = e.ats from rfl, show (moreE e q).tx = e.tx from rfl] at HC
  have q0 := hZc.cell 0
  have q1 := hZc.cell 1
  have q2 := hZc.cell 2
  have q3 := hZc.cell 3
  simp at q0 q1 q2 q3
  have Ya := Lib.hid (Ya_22.out.below hBc hgag)
  have Da := Lib.hid (RwA.keep enP (fun b hb _ => hBc.block b (by have hb : b < ga := hb; omega)) hBc.size (fun b h _ => h) Da_21.out)
  have BWc := Lib.hid (BW_20.out.trans (hBc.mono (show w.heap.size ≤ g7 by omega)))
  clear hZc hEM hBc HBC FE0 FE F0_16 G0_17 X0_18 X1_19 BW_20 Da_21 Ya_22 Z7_23
  go_wp2_with fail
  (with_reducible refine (HC.out).mono ?_)
  rintro _ w4 h4
  obtain ⟨A4, n4, c4, rfl, hE, hn41, hn42, hb⟩ := h4
  rw [← HT2.out]
  have hl4 := hE.len
  have hbx := bel_alloc hb (.cells #[.string ⟨(o2.getD zeroDoc).ti.toArray⟩, .string ⟨(o2.getD zeroDoc).li.toArray⟩, .slice A4 n4 c4] 31)
  have Db := Lib.hid (hE.bel enP (bel_alloc (Below.refl w4.heap.size w4) (.cells #[.string ⟨(o2.getD zeroDoc).ti.toArray⟩, .string ⟨(o2.getD zeroDoc).li.toArray⟩, .slice A4 n4 c4] 31)))
  have Yb0 := Blk.new w4 31 #[.string ⟨(o2.getD zeroDoc).ti.toArray⟩, .string ⟨(o2.getD zeroDoc).li.toArray⟩, .slice A4 n4 c4]
  have Ya1 := Lib.hid (Ya.out.below hbx Ya.out.lt)
  have Da1 := Lib.hid (Da.out.bel enP hbx)
  have BW4 := Lib.hid (bel_step BWc.out hbx)
  obtain ⟨gb, hgb⟩ : ∃ gb, gb = w4.heap.size := ⟨_, rfl⟩
  rw [← hgb] at Yb0
  have Yb := Lib.hid Yb0
  clear hE hb hbx HC q0 q1 q2 q3 Ya Da BWc Yb0
  have hn256 : n3 ≤ 256 := by rw [← hl3, HO.out]; exact read_le e
  have m2' : n3 ≤ n4 := by omega
  have m3' : n4 ≤ n3 + 1 := by omega
  have hoo : (tt != tt) = false := by simp
  have d1 : decide ((n4 : Int) < (n3 : Int)) = false := by simp; omega
  have d2 : decide ((n3 : Int) + 1 < (n4 : Int)) = false := by simp; omega
  have d3 : decide (n4 < n3) = false := by simp; omega
  have d4 : decide (n3 + 1 < n4) = false := by simp; omega
  go_upto_region 7 with fail
  try simp only [← hgb]
  obtain ⟨w5, hw5⟩ : ∃ w5, w5 = w4.alloc (.cells #[.string ⟨(o2.getD zeroDoc).ti.toArray⟩, .string ⟨(o2.getD zeroDoc).li.toArray⟩, .slice A4 n4 c4] 31) := ⟨_, rfl⟩
  rw [← hw5] at Db Ya1 Da1 BW4 Yb
  try simp only [← hw5]
  clear hw5 hgb
  go_wp2_with fail
  (with_reducible refine (lives11_any _).mono ?_)
  rintro _ w6 ⟨rfl, hb⟩
  have BW6 := Lib.hid (bel_step BW4.out hb)
  have Ya6 := Lib.hid (Ya1.out.below hb Ya1.out.lt)
  have Yb6 := Lib.hid (Yb.out.below hb Yb.out.lt)
  have Da6 := Lib.hid (Da1.out.bel enP hb)
  have Db6 := Lib.hid (Db.out.bel enP hb)
  clear hb BW4 Ya1 Yb Da1 Db
  have t0 := Ya6.out.cell 0
  have t1 := Ya6.out.cell 1
  have t2 := Ya6.out.cell 2
  have u0 := Yb6.out.cell 0
  have u1 := Yb6.out.cell 1
  have u2 := Yb6.out.cell 2
  simp at t0 t1 t2 u0 u1 u2
  go_upto_region 9 with fail
  have HM4 : Hid ((o2.getD zeroDoc).en.take n3 = (o.getD zeroDoc).en) := Lib.hid (by have := M4.out; rw [hl3] at this; exact this)
  clear t0 t1 t2 u0 u1 u2
  have hsl : n3 ≤ c4 := by omega
  refine wp_region_ord w6.heap.size (by kernel_rfl) (.take 0 (.take 1 (.take 2 (.take 3 (.take 4 (.take 5 (.take 6 (.take 7 (.exec 8 (.take 9 (.take 10 (.take 11 (.take 12 (.take 13 (.take 14 (.take 15 (.take 16 (.take 17 (.take 18 (.take 19 (.take 20 (.take 21 (.take 22 (.take 23 (.nil))))))))))))))))))))))))) (by kernel_rfl) (by kernel_rfl) (by kernel_rfl) ?_
  intro w0 hb0 hz0
  have BQ0 := Lib.hid hb0
  have y0 := fun W (hW : Below w6.heap.size w0 W) => (show W.cell? ⟨ga, 0, none⟩ = some (.string ⟨(o.getD zeroDoc).ti.toArray⟩) from ((Ya6.out.below (hb0.trans hW) Ya6.out.lt).cell 0).trans rfl)
  have y1 := fun W (hW : Below w6.heap.size w0 W) => (show W.cell? ⟨ga, 1, none⟩ = some (.string ⟨(o.getD zeroDoc).li.toArray⟩) from ((Ya6.out.below (hb0.trans hW) Ya6.out.lt).cell 1).trans rfl)
  have y2 := fun W (hW : Below w6.heap.size w0 W) => (show W.cell? ⟨ga, 2, none⟩ = some (.slice A3 n3 c3) from ((Ya6.out.below (hb0.trans hW) Ya6.out.lt).cell 2).trans rfl)
  have z0 := fun W (hW : Below w6.heap.size w0 W) => (show W.cell? ⟨gb, 0, none⟩ = some (.string ⟨(o2.getD zeroDoc).ti.toArray⟩) from ((Yb6.out.below (hb0.trans hW) Yb6.out.lt).cell 0).trans rfl)
  have z1 := fun W (hW : Below w6.heap.size w0 W) => (show W.cell? ⟨gb, 1, none⟩ = some (.string ⟨(o2.getD zeroDoc).li.toArray⟩) from ((Yb6.out.below (hb0.trans hW) Yb6.out.lt).cell 1).trans rfl)
  have z2 := fun W (hW : Below w6.heap.size w0 W) => (show W.cell? ⟨gb, 2, none⟩ = some (.slice A4 n4 c4) from ((Yb6.out.below (hb0.trans hW) Yb6.out.lt).cell 2).trans rfl)
  clear hb0 hz0
  iterate 8 (refine wpOrd_take (o := ⟨_, _, _, _, _, _⟩) (v := ?_) rfl rfl ?_ ?_; rotate_left; (focus (intro W hW; go_simp; first | done | with_reducible rfl)); simp only [Act.put, List.setIfInBounds_toArray, List.set_cons_zero, List.set_cons_succ])
  have CN := Lib.hid (sameE10_any ((o2.getD zeroDoc).en.take n3) (o.getD zeroDoc).en A4 A3 n3 n3 c4 c3 w0 _ _ (RwA.takeA (Db6.out.bel enP BQ0.out) m2') (Da6.out.bel enP BQ0.out) ⟨hsl, hn42⟩ ⟨hn31, hn32⟩)
  rw [show decide ((o2.getD zeroDoc).en.take n3 = (o.getD zeroDoc).en) = true by simpa using HM4.out] at CN
  clear y0 y1 y2 z0 z1 z2
  refine wpOrd_exec (o := ⟨_, _, _, _, _, _⟩) rfl rfl (fun K hK => ?_)
  go_simp
  (with_reducible refine (CN.out).mono ?_)
  rintro _ wa ⟨rfl, hm⟩
  have hba := bel_dn hm
  clear hm CN
  go_wp2_with fail
  refine hK _ _ (hba.mono BQ0.out.size) ?_
  clear hK K
  have BQ1 := Lib.hid (BQ0.out.trans (hba.mono BQ0.out.size))
  clear hba
  have y0 := fun W (hW : Below w6.heap.size wa W) => (show W.cell? ⟨ga, 0, none⟩ = some (.string ⟨(o.getD zeroDoc).ti.toArray⟩) from ((Ya6.out.below (BQ1.out.trans hW) Ya6.out.lt).cell 0).trans rfl)
  have y1 := fun W (hW : Below w6.heap.size wa W) => (show W.cell? ⟨ga, 1, none⟩ = some (.string ⟨(o.getD zeroDoc).li.toArray⟩) from ((Ya6.out.below (BQ1.out.trans hW) Ya6.out.lt).cell 1).trans rfl)
  have z0 := fun W (hW : Below w6.heap.size wa W) => (show W.cell? ⟨gb, 0, none⟩ = some (.string ⟨(o.getD zeroDoc).ti.toArray⟩) from ((Yb6.out.below (BQ1.out.trans hW) Yb6.out.lt).cell 0).trans (by rw [← M5.out]; rfl))
  have z1 := fun W (hW : Below w6.heap.size wa W) => (show W.cell? ⟨gb, 1, none⟩ = some (.string ⟨(o.getD zeroDoc).li.toArray⟩) from ((Yb6.out.below (BQ1.out.trans hW) Yb6.out.lt).cell 1).trans (by rw [← M6.out]; rfl))
  iterate 15 (refine wpOrd_take (o := ⟨_, _, _, _, _, _⟩) (v := ?_) rfl rfl ?_ ?_; rotate_left; (focus (intro W hW; go_simp; first | done | with_reducible rfl)); simp only [Act.put, List.setIfInBounds_toArray, List.set_cons_zero, List.set_cons_succ])
  refine wpOrd_nil ?_
  go_wp2_with fail
  go_ret
  exact ⟨by first | rfl | simp, bel_step BW6.out BQ1.out⟩
end Go.Proofs.Ytjmmgekildlckaa
