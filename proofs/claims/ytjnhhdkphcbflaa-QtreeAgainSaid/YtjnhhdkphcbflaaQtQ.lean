/-
  The walks of the laws of queries (printed by gen_qtq.py).
-/
import Derived.Test.YtjnhhdkphcbflaaQtP2
namespace Go.Proofs.Ytjnhhdkphcbflaa
open Go.RowKit Go.Nst
set_option maxRecDepth 100000
set_option linter.unusedVariables false
set_option linter.unusedSimpArgs false

theorem Sml_norm (q : Qy) : Shp q → Sml q → ∀ b, Sml (normQ q b) := by
  refine Qy.ind (p := fun q => Shp q → Sml q → ∀ b, Sml (normQ q b)) ?_ q
  intro o n s l ih hs hm b
  have hlf : ∀ x, Sml (leafO x) := fun x => .mk (by simp) (by simp)
  cases hs with
  | leaf h3 h4 h5 h12 =>
    have h0 : Sml ⟨o, n, s, []⟩ := hm
    simp only [normQ, if_neg h5, if_neg (show ¬ (o = 3 ∨ o = 4) by omega)]
    split
    · exact h0
    · split
      · exact hlf _
      · rw [oppQ, if_neg (show ¬ (Qy.mk o n s []).op = 5 from h5)]
        exact .mk (by simp) (fun k hk => by simp only [List.mem_cons, List.not_mem_nil, or_false] at hk; subst hk; exact h0)
  | nt hk =>
    rename_i k
    simp only [normQ, normH, if_true]
    exact ih k (by simp) hk (hm.kid (by simp [Qy.kids])) (!b)
  | many ho hl =>
    have h5 : o ≠ 5 := by omega
    simp only [normQ, if_neg h5, if_pos ho, normL_map]
    have hL : ∀ k ∈ l.map (fun k => normQ k b), Sml k := by
      intro k hk
      obtain ⟨x, hx, rfl⟩ := List.mem_map.1 hk
      exact ih x hx (hl x hx) (hm.kid hx) b
    have hfl : ∀ (o' : Int) (l acc r : List Qy), (∀ k ∈ l, Sml k) → (∀ k ∈ acc, Sml k) → flatL o' l acc = some r → ∀ k ∈ r, Sml k := by
      intro o' l
      induction l with
      | nil => intro acc r _ ha h; simp only [flatL, Option.some.injEq] at h; subst h; exact ha
      | cons x xs ih2 =>
        intro acc r hx ha h
        have hxs : ∀ k ∈ xs, Sml k := fun k hk => hx k (List.mem_cons_of_mem _ hk)
        have hx0 := hx x (by simp)
        simp only [flatL] at h
        split at h
        · refine ih2 _ r hxs (fun k hk => ?_) h
          rcases List.mem_append.1 hk with hk | hk
          · exact ha k hk
          · exact hx0.kid hk
        · split at h
          · exact ih2 _ r hxs ha h
          · split at h
            · cases h
            · refine ih2 _ r hxs (fun k hk => ?_) h
              rcases List.mem_append.1 hk with hk | hk
              · exact ha k hk
              · simp only [List.mem_cons, List.not_mem_nil, or_false] at hk; subst hk; exact hx0
    have hon : ∀ (l acc : List Qy), (∀ k ∈ l, Sml k) → (∀ k ∈ acc, Sml k) → ∀ k ∈ onceL l acc, Sml k := by
      intro l
      induction l with
      | nil => intro acc _ ha; exact ha
      | cons x xs ih2 =>
        intro acc hx ha
        have hxs : ∀ k ∈ xs, Sml k := fun k hk => hx k (List.mem_cons_of_mem _ hk)
        simp only [onceL]
        refine ih2 _ hxs ?_
        by_cases h : (acc.any fun y => samQ x y 1) = true
        · rw [if_pos h]; exact ha
        · rw [if_neg h]
          intro k hk
          rcases List.mem_append.1 hk with hk | hk
          · exact ha k hk
          · simp only [List.mem_cons, List.not_mem_nil, or_false] at hk; subst hk; exact hx k (by simp)
    generalize l.map (fun k => normQ k b) = L at hL ⊢
    generalize (if b = true then otherO o else o) = o'
    unfold joinQ
    split
    · exact hlf _
    · rename_i f hf
      have h1 := hon f [] (hfl o' L [] f hL (by simp) hf) (by simp)
      split
      · exact hlf _
      · generalize onceL f [] = K at h1 ⊢
        match K, h1 with
        | [], _ => exact hlf _
        | [x], h1 => exact h1 x (by simp)
        | a :: c :: t, h1 => exact .mk (by simp) h1
theorem ask_of {q : Qy} (h : decide (leftQ q 0 300 ≤ 0) = false) : Ask q := by
  intro hd
  have h0 : 0 < leftQ q 0 300 := by simpa using h
  have := left_pos q 0 1 300 (by omega) (by simpa using (by omega : depQ q 1 ≤ 64)) (by omega) h0
  exact ⟨by have := this.1; omega, this.2⟩
theorem nod_of {q : Qy} (h : decide (leftQ q 0 300 ≤ 0) = false) (hd : depQ q 1 ≤ 64) : nodK q := by
  have h0 : 0 < leftQ q 0 300 := by simpa using h
  have := left_pos q 0 1 300 (by omega) (by simpa using hd) (by omega) h0
  unfold nodK
  have := this.1
  omega
theorem ask_small {q : Qy} (h1 : nodQ q ≤ 1000000) (h2 : Sml q) : Ask q := fun _ => ⟨h1, h2⟩
/-- what is the normal form of a query that may be -/
theorem norm_facts {q : Qy} (hok : okQ q = true) (ha : Ask q) : Shp q ∧ nodQ q ≤ 64 ∧ refNorm q = normQ q false ∧ samQ (normQ q false) (normQ q false) 1 = true ∧ Ask (normQ q false) ∧ norB (normQ q false) 0 = true ∧ normQ (normQ q false) false = normQ q false := by
  obtain ⟨h1, h2, h3⟩ := okQ_parts hok
  obtain ⟨g1, g2, g3⟩ := norm_all q h1 false (by omega)
  have hdq : depQ q 1 ≤ 12 := by have := dep_ht q 1; omega
  refine ⟨h1, h3, g3, (sam_ht (by omega)).2 rfl, ask_small (by have := norm_nod q h1 false; omega) (Sml_norm q h1 (ha hdq).2 false), g1.normal (by omega) 0 (fun _ => rfl) ?_, g1.again (by omega)⟩
  rcases Classical.em ((normQ q false).op = 3 ∨ (normQ q false).op = 4) with h | h
  · left; omega
  · exact .inr h
theorem sml_not {q : Qy} (h : Sml q) : Sml (notQ q) := .mk (by simp) (fun k hk => by
  simp only [List.mem_cons, List.not_mem_nil, or_false] at hk
  subst hk
  exact h)
theorem nod_not (q : Qy) : nodQ (notQ q) = 1 + nodQ q := by rw [nodQ_kids]; simp [notQ, Qy.kids, nodL]
theorem ask_notnot {q : Qy} (h : Sml q) (hn : nodQ q ≤ 64) : Ask (notQ (notQ q)) := ask_small (by rw [nod_not, nod_not]; omega) (sml_not (sml_not h))
theorem zero_same : samQ .zero .zero 1 = true := by rfl
theorem zero_at {w : World} {S : Nat → Prop} : QAt w S #[.int .i64 0, .int .i64 0, .string ⟨#[]⟩, .slice none 0 0] .zero := QAt.leaf (s := []) (i64P_lit (by omega)) (i64P_lit (by omega)) (by simp)
set_option maxHeartbeats 8000000 in
theorem qtreeNorms_walk (q : Qy) (vs : Array Value) (w : World) (hq : QAt w (fun _ => True) vs q) : Calls Try.prog 4 #[.agg vs] w (RetTrue w) := by
  have B0 := bel_alloc (Below.refl w.heap.size w) (.cells vs 24)
  have HX0 := Lib.hid (Blk.new w 24 vs)
  have HQ0 := Lib.hid (hq.bel B0)
  have HL := Lib.hid (Large25_any q vs _ _ HQ0.out)
  have hlg : ∀ b, decide (leftQ q 0 300 ≤ 0) = b → (b = false → Ask q) := fun b h hb => ask_of (h.trans hb)
  generalize decide (leftQ q 0 300 ≤ 0) = lg at *
  have HASK := Lib.hid (hlg lg rfl)
  clear hlg
  obtain ⟨A, c, rfl, -, -, -, -, -, -⟩ := hq.open_
  clear hq
  have HE1 : Hid (errV true = .int .i64 0) := Lib.hid rfl
  have HE2 : Hid (errV false = .int .i64 250) := Lib.hid rfl
  simp only [qV] at HL B0 ⊢
  go_enter Try.func4, Try.ntmps4
  go_wp2_with fail
  have HX_0 := HX0
  have HQ_0 := HQ0
  have BB_0 := Lib.hid B0
  clear HX0 HQ0 B0
  (with_reducible refine (HL.out).mono ?_)
  rintro e w1 ⟨rfl, hb1⟩
  have HX_1 := Lib.hid (HX_0.out.below hb1 HX_0.out.lt)
  have HQ_2 := Lib.hid (HQ_0.out.bel hb1)
  have BB_3 := Lib.hid (bel_step BB_0.out hb1)
  clear HX_0 HQ_0 BB_0
  cases lg with
  | true =>
    go_wp2_with fail
    (with_reducible refine (lives25_any _).mono ?_)
    rintro e w2 ⟨rfl, hb2⟩
    have HX_4 := Lib.hid (HX_1.out.below hb2 HX_1.out.lt)
    have HQ_5 := Lib.hid (HQ_2.out.bel hb2)
    have BB_6 := Lib.hid (bel_step BB_3.out hb2)
    clear HX_1 HQ_2 BB_3
    go_wp2_with fail
    go_ret
    exact ⟨rfl, BB_6.out⟩
  | false =>
    have hask := HASK.out (by simp)
    obtain ⟨zhx0, zhx1, zhx2, zhx3⟩ := box_facts HX_1.out
    try simp only [qV] at zhx0 zhx1 zhx2 zhx3
    cases hok : okQ q with
    | false =>
      have HCK := Lib.hid (fun W vs S hW => refCheck25_any q hask vs W S hW)
      rw [hok] at HCK
      have HN := Lib.hid (Norm25_no q hask hok _ _ _ HQ_2.out)
      clear hask hok
      try simp only [qV] at HN
      go_wp2_with fail
      (with_reducible refine (HN.out).mono ?_)
      rintro e wn ⟨vn, rfl, hqn, hbn⟩
      rw [HE2.out]
      have HZ := Lib.hid hqn
      obtain ⟨Az, cz, rfl, -, -, -, -, -, -⟩ := hqn.open_
      clear hqn
      clear zhx0 zhx1 zhx2 zhx3
      have HX_4 := Lib.hid (HX_1.out.below hbn HX_1.out.lt)
      have HQ_5 := Lib.hid (HQ_2.out.bel hbn)
      have BB_6 := Lib.hid (bel_step BB_3.out hbn)
      clear HX_1 HQ_2 BB_3
      have HZZ_7 := HZ
      try simp only [qV, z_op, z_n, z_s, z_kids, List.length_nil] at *
      have E_8 := bel_alloc (Below.refl wn.heap.size wn) (.cells (#[.int .i64 0, .int .i64 0, .string ⟨#[]⟩, .slice Az 0 cz]) 24)
      have HX_8 := Lib.hid (HX_4.out.below E_8 HX_4.out.lt)
      have HQ_9 := Lib.hid (HQ_5.out.bel E_8)
      have BB_10 := Lib.hid (bel_step BB_6.out E_8)
      have HZZ_11 := Lib.hid (HZZ_7.out.bel E_8)
      clear HX_4 HQ_5 BB_6 HZZ_7
      clear E_8
      have HY_12 := Lib.hid (Blk.new wn 24 (#[.int .i64 0, .int .i64 0, .string ⟨#[]⟩, .slice Az 0 cz]))
      go_wp2_with fail
      (with_reducible refine (lives25_any _).mono ?_)
      rintro e w2 ⟨rfl, hb2⟩
      have HX_13 := Lib.hid (HX_8.out.below hb2 HX_8.out.lt)
      have HQ_14 := Lib.hid (HQ_9.out.bel hb2)
      have BB_15 := Lib.hid (bel_step BB_10.out hb2)
      have HZZ_16 := Lib.hid (HZZ_11.out.bel hb2)
      have HY_17 := Lib.hid (HY_12.out.below hb2 HY_12.out.lt)
      clear HX_8 HQ_9 BB_10 HZZ_11 HY_12
      obtain ⟨zhx0, zhx1, zhx2, zhx3⟩ := box_facts HX_13.out
      try simp only [qV] at zhx0 zhx1 zhx2 zhx3
      have HC1 := Lib.hid (HCK.out _ _ _ HQ_14.out)
      try simp only [qV] at HC1
      go_wp2_with fail
      clear zhx0 zhx1 zhx2 zhx3
      (with_reducible refine (HC1.out).mono ?_)
      rintro e w3 ⟨rfl, hb3⟩
      have HX_18 := Lib.hid (HX_13.out.below hb3 HX_13.out.lt)
      have HQ_19 := Lib.hid (HQ_14.out.bel hb3)
      have BB_20 := Lib.hid (bel_step BB_15.out hb3)
      have HZZ_21 := Lib.hid (HZZ_16.out.bel hb3)
      have HY_22 := Lib.hid (HY_17.out.below hb3 HY_17.out.lt)
      clear HX_13 HQ_14 BB_15 HZZ_16 HY_17
      obtain ⟨zy0, zy1, zy2, zy3⟩ := res_facts4 HY_22.out
      have HC2 := Lib.hid (refSame_any25 .zero .zero _ _ _ _ (fun _ => True) HZZ_21.out zero_at)
      rw [zero_same] at HC2
      try simp only [qV, z_op, z_n, z_s, z_kids, List.length_nil] at HC2
      go_wp2_with fail
      clear zy0 zy1 zy2 zy3
      (with_reducible refine (HC2.out).mono ?_)
      rintro e w4 ⟨rfl, hb4⟩
      have HX_23 := Lib.hid (HX_18.out.below hb4 HX_18.out.lt)
      have HQ_24 := Lib.hid (HQ_19.out.bel hb4)
      have BB_25 := Lib.hid (bel_step BB_20.out hb4)
      have HZZ_26 := Lib.hid (HZZ_21.out.bel hb4)
      have HY_27 := Lib.hid (HY_22.out.below hb4 HY_22.out.lt)
      clear HX_18 HQ_19 BB_20 HZZ_21 HY_22
      go_wp2_with fail
      go_ret
      exact ⟨rfl, BB_25.out⟩
    | true =>
      obtain ⟨hsh, hnd, hrn, hsm, -, -, -⟩ := norm_facts hok hask
      have HCK := Lib.hid (fun W vs S hW => refCheck25_any q hask vs W S hW)
      rw [hok] at HCK
      have HN := Lib.hid (Norm25_yes q hask hok _ _ _ HQ_2.out)
      have HRN := Lib.hid (fun W vs S hW => refNorm25_any q hsh (by omega) vs W S hW)
      rw [hrn] at HRN
      have HSM := Lib.hid hsm
      clear hask hok hsh hnd hrn hsm
      generalize normQ q false = X at *
      try simp only [qV] at HN
      go_wp2_with fail
      (with_reducible refine (HN.out).mono ?_)
      rintro e wn ⟨vn, rfl, hqn, hbn⟩
      rw [HE1.out]
      have HZ := Lib.hid hqn
      obtain ⟨Az, cz, rfl, -, -, -, -, -, -⟩ := hqn.open_
      clear hqn
      clear zhx0 zhx1 zhx2 zhx3
      have HX_4 := Lib.hid (HX_1.out.below hbn HX_1.out.lt)
      have HQ_5 := Lib.hid (HQ_2.out.bel hbn)
      have BB_6 := Lib.hid (bel_step BB_3.out hbn)
      clear HX_1 HQ_2 BB_3
      have HZZ_7 := HZ
      try simp only [qV]
      have E_8 := bel_alloc (Below.refl wn.heap.size wn) (.cells (qV X.op X.n X.s Az X.kids.length cz) 24)
      have HX_8 := Lib.hid (HX_4.out.below E_8 HX_4.out.lt)
      have HQ_9 := Lib.hid (HQ_5.out.bel E_8)
      have BB_10 := Lib.hid (bel_step BB_6.out E_8)
      have HZZ_11 := Lib.hid (HZZ_7.out.bel E_8)
      clear HX_4 HQ_5 BB_6 HZZ_7
      clear E_8
      have HY_12 := Lib.hid (Blk.new wn 24 (qV X.op X.n X.s Az X.kids.length cz))
      go_wp2_with fail
      (with_reducible refine (lives25_any _).mono ?_)
      rintro e w2 ⟨rfl, hb2⟩
      have HX_13 := Lib.hid (HX_8.out.below hb2 HX_8.out.lt)
      have HQ_14 := Lib.hid (HQ_9.out.bel hb2)
      have BB_15 := Lib.hid (bel_step BB_10.out hb2)
      have HZZ_16 := Lib.hid (HZZ_11.out.bel hb2)
      have HY_17 := Lib.hid (HY_12.out.below hb2 HY_12.out.lt)
      clear HX_8 HQ_9 BB_10 HZZ_11 HY_12
      obtain ⟨zhx0, zhx1, zhx2, zhx3⟩ := box_facts HX_13.out
      try simp only [qV] at zhx0 zhx1 zhx2 zhx3
      have HC1 := Lib.hid (HCK.out _ _ _ HQ_14.out)
      try simp only [qV] at HC1
      go_wp2_with fail
      clear zhx0 zhx1 zhx2 zhx3
      (with_reducible refine (HC1.out).mono ?_)
      rintro e w3 ⟨rfl, hb3⟩
      have HX_18 := Lib.hid (HX_13.out.below hb3 HX_13.out.lt)
      have HQ_19 := Lib.hid (HQ_14.out.bel hb3)
      have BB_20 := Lib.hid (bel_step BB_15.out hb3)
      have HZZ_21 := Lib.hid (HZZ_16.out.bel hb3)
      have HY_22 := Lib.hid (HY_17.out.below hb3 HY_17.out.lt)
      clear HX_13 HQ_14 BB_15 HZZ_16 HY_17
      go_wp2_with fail
      refine wp_region_seq (by kernel_rfl) [(0, true), (1, true), (2, true), (3, true), (4, true), (5, false), (6, false), (7, true), (8, true)] (by kernel_rfl) rfl (by kernel_rfl) ?_
      intro w0 hb0
      have HX_23 := Lib.hid (HX_18.out.below hb0 HX_18.out.lt)
      have HQ_24 := Lib.hid (HQ_19.out.bel hb0)
      have BB_25 := Lib.hid (bel_step BB_20.out hb0)
      have HZZ_26 := Lib.hid (HZZ_21.out.bel hb0)
      have HY_27 := Lib.hid (HY_22.out.below hb0 HY_22.out.lt)
      clear HX_18 HQ_19 BB_20 HZZ_21 HY_22
      obtain ⟨zhx0, zhx1, zhx2, zhx3⟩ := box_facts HX_23.out
      obtain ⟨zhy0, zhy1, zhy2, zhy3⟩ := box_facts HY_27.out
      try simp only [qV] at zhx0 zhx1 zhx2 zhx3 zhy0 zhy1 zhy2 zhy3
      have Lzhx0 := later zhx0
      have Lzhx1 := later zhx1
      have Lzhx2 := later zhx2
      have Lzhx3 := later zhx3
      have Lzhy0 := later zhy0
      have Lzhy1 := later zhy1
      have Lzhy2 := later zhy2
      have Lzhy3 := later zhy3
      clear zhx0 zhx1 zhx2 zhx3 zhy0 zhy1 zhy2 zhy3
      have HC2 := Lib.hid (HRN.out w0 _ _ HQ_24.out)
      try simp only [qV] at HC2
      iterate 5 (refine wpSeq_take (o := ⟨_, _, _, _, _, _⟩) (v := ?_) rfl rfl ?_ ?_; rotate_left; (focus (intro W hW; go_simp; first | done | with_reducible rfl)); simp only [Act.put, List.setIfInBounds_toArray, List.set_cons_zero, List.set_cons_succ])
      clear Lzhx0 Lzhx1 Lzhx2 Lzhx3 Lzhy0 Lzhy1 Lzhy2 Lzhy3
      refine wpSeq_exec (o := ⟨_, _, _, _, _, _⟩) rfl rfl (fun K hK => ?_)
      go_simp
      (with_reducible refine (HC2.out).mono ?_)
      rintro e wr ⟨vr, rfl, hqr, hbr⟩
      have HR := Lib.hid hqr
      obtain ⟨Ar, cr, rfl, -, -, -, -, -, -⟩ := hqr.open_
      clear hqr
      try simp only [qV]
      go_wp2_with fail
      refine hK _ _ hbr ?_
      clear hK K
      have HX_28 := Lib.hid (HX_23.out.below hbr HX_23.out.lt)
      have HQ_29 := Lib.hid (HQ_24.out.bel hbr)
      have BB_30 := Lib.hid (bel_step BB_25.out hbr)
      have HZZ_31 := Lib.hid (HZZ_26.out.bel hbr)
      have HY_32 := Lib.hid (HY_27.out.below hbr HY_27.out.lt)
      clear HX_23 HQ_24 BB_25 HZZ_26 HY_27
      have HC3 := Lib.hid (refSame_any25 X X _ _ _ _ _ HZZ_31.out HR.out)
      rw [HSM.out] at HC3
      try simp only [qV] at HC3
      refine wpSeq_exec (o := ⟨_, _, _, _, _, _⟩) rfl rfl (fun K hK => ?_)
      go_simp
      (with_reducible refine (HC3.out).mono ?_)
      rintro e ws ⟨rfl, hbs⟩
      go_wp2_with fail
      refine hK _ _ hbs ?_
      clear hK K
      have HX_33 := Lib.hid (HX_28.out.below hbs HX_28.out.lt)
      have HQ_34 := Lib.hid (HQ_29.out.bel hbs)
      have BB_35 := Lib.hid (bel_step BB_30.out hbs)
      have HZZ_36 := Lib.hid (HZZ_31.out.bel hbs)
      have HY_37 := Lib.hid (HY_32.out.below hbs HY_32.out.lt)
      clear HX_28 HQ_29 BB_30 HZZ_31 HY_32
      iterate 2 (refine wpSeq_take (o := ⟨_, _, _, _, _, _⟩) (v := ?_) rfl rfl ?_ ?_; rotate_left; (focus (intro W hW; go_simp; first | done | with_reducible rfl)); simp only [Act.put, List.setIfInBounds_toArray, List.set_cons_zero, List.set_cons_succ])
      refine wpSeq_nil ?_
      go_wp2_with fail
      go_ret
      exact ⟨rfl, BB_35.out⟩
set_option maxHeartbeats 8000000 in
theorem qtreeChecks_walk (q q2 : Qy) (vs v2 : Array Value) (w : World) (hq : QAt w (fun _ => True) vs q) (hq2 : QAt w (fun _ => True) v2 q2) : Calls Try.prog 3 #[.agg vs, .agg v2] w (RetTrue w) := by
  have B0 := bel_alloc (bel_alloc (Below.refl w.heap.size w) (.cells vs 24)) (.cells v2 24)
  have HX_0 := Lib.hid ((Blk.new w 24 vs).alloc (.cells v2 24))
  have hx2 := Blk.new (w.alloc (.cells vs 24)) 24 v2
  rw [show (w.alloc (.cells vs 24)).heap.size = w.heap.size + 1 by simp] at hx2
  have HY_0 := Lib.hid hx2
  have HQ_0 := Lib.hid (hq.bel B0)
  have HR_0 := Lib.hid (hq2.bel B0)
  have BB_0 := Lib.hid B0
  have HL1 := Lib.hid (Large25_any q vs _ _ HQ_0.out)
  have HL2 := Lib.hid (fun W v S hW => Large25_any q2 v W S hW)
  have hlg : ∀ b, decide (leftQ q 0 300 ≤ 0) = b → (b = false → Ask q ∧ (depQ q 1 ≤ 64 → nodK q)) := fun b h hb => ⟨ask_of (h.trans hb), nod_of (h.trans hb)⟩
  generalize decide (leftQ q 0 300 ≤ 0) = lg at *
  generalize decide (leftQ q2 0 300 ≤ 0) = lg2 at *
  have HASK := Lib.hid (hlg lg rfl)
  clear hlg hx2
  obtain ⟨A, c, rfl, -, -, -, -, -, -⟩ := hq.open_
  obtain ⟨A2, c2, rfl, -, -, -, -, -, -⟩ := hq2.open_
  clear hq hq2 B0
  have HE1 : Hid (errV true = .int .i64 0) := Lib.hid rfl
  have HE2 : Hid (errV false = .int .i64 250) := Lib.hid rfl
  try simp only [qV] at HL1 ⊢
  go_enter Try.func3, Try.ntmps3
  go_wp2_with fail
  (with_reducible refine (HL1.out).mono ?_)
  rintro e w1 ⟨rfl, hb1⟩
  have HX_1 := Lib.hid (HX_0.out.below hb1 HX_0.out.lt)
  have HY_2 := Lib.hid (HY_0.out.below hb1 HY_0.out.lt)
  have HQ_3 := Lib.hid (HQ_0.out.bel hb1)
  have HR_4 := Lib.hid (HR_0.out.bel hb1)
  have BB_5 := Lib.hid (bel_step BB_0.out hb1)
  clear HX_0 HY_0 HQ_0 HR_0 BB_0
  cases lg with
  | true =>
    go_wp2_with fail
    (with_reducible refine (lives25_any _).mono ?_)
    rintro e w2 ⟨rfl, hb2⟩
    have HX_6 := Lib.hid (HX_1.out.below hb2 HX_1.out.lt)
    have HY_7 := Lib.hid (HY_2.out.below hb2 HY_2.out.lt)
    have HQ_8 := Lib.hid (HQ_3.out.bel hb2)
    have HR_9 := Lib.hid (HR_4.out.bel hb2)
    have BB_10 := Lib.hid (bel_step BB_5.out hb2)
    clear HX_1 HY_2 HQ_3 HR_4 BB_5
    go_wp2_with fail
    go_ret
    exact ⟨rfl, BB_10.out⟩
  | false =>
    obtain ⟨zhx0, zhx1, zhx2, zhx3⟩ := box_facts HX_1.out
    obtain ⟨zhy0, zhy1, zhy2, zhy3⟩ := box_facts HY_2.out
    try simp only [qV] at zhx0 zhx1 zhx2 zhx3 zhy0 zhy1 zhy2 zhy3
    have HC0 := Lib.hid (HL2.out _ _ _ HR_4.out)
    try simp only [qV] at HC0
    go_wp2_with fail
    clear zhx0 zhx1 zhx2 zhx3 zhy0 zhy1 zhy2 zhy3
    (with_reducible refine (HC0.out).mono ?_)
    rintro e w2 ⟨rfl, hb2⟩
    have HX_6 := Lib.hid (HX_1.out.below hb2 HX_1.out.lt)
    have HY_7 := Lib.hid (HY_2.out.below hb2 HY_2.out.lt)
    have HQ_8 := Lib.hid (HQ_3.out.bel hb2)
    have HR_9 := Lib.hid (HR_4.out.bel hb2)
    have BB_10 := Lib.hid (bel_step BB_5.out hb2)
    clear HX_1 HY_2 HQ_3 HR_4 BB_5
    cases lg2 with
    | true =>
      go_wp2_with fail
      (with_reducible refine (lives25_any _).mono ?_)
      rintro e w3 ⟨rfl, hb3⟩
      have HX_11 := Lib.hid (HX_6.out.below hb3 HX_6.out.lt)
      have HY_12 := Lib.hid (HY_7.out.below hb3 HY_7.out.lt)
      have HQ_13 := Lib.hid (HQ_8.out.bel hb3)
      have HR_14 := Lib.hid (HR_9.out.bel hb3)
      have BB_15 := Lib.hid (bel_step BB_10.out hb3)
      clear HX_6 HY_7 HQ_8 HR_9 BB_10
      go_wp2_with fail
      go_ret
      exact ⟨rfl, BB_15.out⟩
    | false =>
      obtain ⟨hask, hnodk⟩ := HASK.out (by simp)
      have HCK := Lib.hid (fun W vs S hW => Check25_any q hask vs W S hW)
      have HRC := Lib.hid (fun W vs S hW => refCheck25_any q hask vs W S hW)
      have HD1 := Lib.hid (fun W vs S hW => Depth25_any q vs W S trivial hW)
      have HD2 := Lib.hid (fun W vs S hW => refDepth_any25 q vs W S trivial hW)
      have HN1 := Lib.hid (fun W vs S hW => Nodes25_any q hnodk vs W S hW)
      have HN2 := Lib.hid (fun W vs S hW => refNodes_any25 q hnodk vs W S hW)
      have HS1 := Lib.hid (fun W vs v2 S S2 hW hW2 => Same25_any q q2 vs v2 W S S2 hW hW2)
      have HS2 := Lib.hid (fun W vs v2 S S2 hW hW2 => refSame_any25 q q2 vs v2 W S S2 hW hW2)
      clear hask hnodk
      generalize okQ q = ok at *
      generalize (depQ q 1 : Int) = dd at *
      generalize nodV q = nn at *
      generalize samQ q q2 1 = ss at *
      obtain ⟨zhx0, zhx1, zhx2, zhx3⟩ := box_facts HX_6.out
      try simp only [qV] at zhx0 zhx1 zhx2 zhx3
      have HC1 := Lib.hid (HCK.out _ _ _ HQ_8.out)
      try simp only [qV] at HC1
      go_wp2_with fail
      clear zhx0 zhx1 zhx2 zhx3
      (with_reducible refine (HC1.out).mono ?_)
      rintro e w3 ⟨rfl, hb3⟩
      have HX_11 := Lib.hid (HX_6.out.below hb3 HX_6.out.lt)
      have HY_12 := Lib.hid (HY_7.out.below hb3 HY_7.out.lt)
      have HQ_13 := Lib.hid (HQ_8.out.bel hb3)
      have HR_14 := Lib.hid (HR_9.out.bel hb3)
      have BB_15 := Lib.hid (bel_step BB_10.out hb3)
      clear HX_6 HY_7 HQ_8 HR_9 BB_10
      cases ok with
      | true =>
        rw [HE1.out]
        go_wp2_with fail
        refine wp_region_seq (by kernel_rfl) [(0, false), (1, true), (2, true), (3, true), (4, true), (5, false), (6, true), (7, true), (8, true), (9, true), (10, true), (11, true), (12, true), (13, true), (14, true), (15, true), (16, true), (17, true), (19, true), (18, false), (20, false), (21, true), (22, true), (23, true), (24, true), (26, true), (25, false), (27, false), (28, true), (29, true), (30, true), (31, true), (32, true), (34, true), (35, true), (33, false), (36, false), (37, true), (38, true), (39, true)] (by kernel_rfl) rfl (by kernel_rfl) ?_
        intro w0 hb0
        have HX_16 := Lib.hid (HX_11.out.below hb0 HX_11.out.lt)
        have HY_17 := Lib.hid (HY_12.out.below hb0 HY_12.out.lt)
        have HQ_18 := Lib.hid (HQ_13.out.bel hb0)
        have HR_19 := Lib.hid (HR_14.out.bel hb0)
        have BB_20 := Lib.hid (bel_step BB_15.out hb0)
        clear HX_11 HY_12 HQ_13 HR_14 BB_15
        obtain ⟨zhx0, zhx1, zhx2, zhx3⟩ := box_facts HX_16.out
        obtain ⟨zhy0, zhy1, zhy2, zhy3⟩ := box_facts HY_17.out
        try simp only [qV] at zhx0 zhx1 zhx2 zhx3 zhy0 zhy1 zhy2 zhy3
        have Lzhx0_0 := later zhx0
        have Lzhx1_0 := later zhx1
        have Lzhx2_0 := later zhx2
        have Lzhx3_0 := later zhx3
        have Lzhy0_0 := later zhy0
        have Lzhy1_0 := later zhy1
        have Lzhy2_0 := later zhy2
        have Lzhy3_0 := later zhy3
        clear zhx0 zhx1 zhx2 zhx3 zhy0 zhy1 zhy2 zhy3
        refine wpSeq_exec (o := ⟨_, _, _, _, _, _⟩) rfl rfl (fun K hK => ?_)
        go_simp
        (with_reducible refine (lives25_any _).mono ?_)
        rintro e v4 ⟨rfl, hc4⟩
        go_wp2_with fail
        refine hK _ _ hc4 ?_
        clear hK K
        have HX_21 := Lib.hid (HX_16.out.below hc4 HX_16.out.lt)
        have HY_22 := Lib.hid (HY_17.out.below hc4 HY_17.out.lt)
        have HQ_23 := Lib.hid (HQ_18.out.bel hc4)
        have HR_24 := Lib.hid (HR_19.out.bel hc4)
        have BB_25 := Lib.hid (bel_step BB_20.out hc4)
        clear HX_16 HY_17 HQ_18 HR_19 BB_20
        have Lzhx0_1 := fun W (h : Below v4.heap.size v4 W) => Lzhx0_0 W (bel_step hc4 h)
        have Lzhx1_1 := fun W (h : Below v4.heap.size v4 W) => Lzhx1_0 W (bel_step hc4 h)
        have Lzhx2_1 := fun W (h : Below v4.heap.size v4 W) => Lzhx2_0 W (bel_step hc4 h)
        have Lzhx3_1 := fun W (h : Below v4.heap.size v4 W) => Lzhx3_0 W (bel_step hc4 h)
        have Lzhy0_1 := fun W (h : Below v4.heap.size v4 W) => Lzhy0_0 W (bel_step hc4 h)
        have Lzhy1_1 := fun W (h : Below v4.heap.size v4 W) => Lzhy1_0 W (bel_step hc4 h)
        have Lzhy2_1 := fun W (h : Below v4.heap.size v4 W) => Lzhy2_0 W (bel_step hc4 h)
        have Lzhy3_1 := fun W (h : Below v4.heap.size v4 W) => Lzhy3_0 W (bel_step hc4 h)
        clear Lzhx0_0 Lzhx1_0 Lzhx2_0 Lzhx3_0 Lzhy0_0 Lzhy1_0 Lzhy2_0 Lzhy3_0
        iterate 4 (refine wpSeq_take (o := ⟨_, _, _, _, _, _⟩) (v := ?_) rfl rfl ?_ ?_; rotate_left; (focus (intro W hW; go_simp; first | done | with_reducible rfl)); simp only [Act.put, List.setIfInBounds_toArray, List.set_cons_zero, List.set_cons_succ])
        have C5 := Lib.hid (HRC.out _ _ _ HQ_23.out)
        try simp only [qV] at C5
        refine wpSeq_exec (o := ⟨_, _, _, _, _, _⟩) rfl rfl (fun K hK => ?_)
        go_simp
        (with_reducible refine (C5.out).mono ?_)
        rintro e v5 ⟨rfl, hc5⟩
        go_wp2_with fail
        refine hK _ _ hc5 ?_
        clear hK K
        have HX_26 := Lib.hid (HX_21.out.below hc5 HX_21.out.lt)
        have HY_27 := Lib.hid (HY_22.out.below hc5 HY_22.out.lt)
        have HQ_28 := Lib.hid (HQ_23.out.bel hc5)
        have HR_29 := Lib.hid (HR_24.out.bel hc5)
        have BB_30 := Lib.hid (bel_step BB_25.out hc5)
        clear HX_21 HY_22 HQ_23 HR_24 BB_25
        have Lzhx0_2 := fun W (h : Below v5.heap.size v5 W) => Lzhx0_1 W (bel_step hc5 h)
        have Lzhx1_2 := fun W (h : Below v5.heap.size v5 W) => Lzhx1_1 W (bel_step hc5 h)
        have Lzhx2_2 := fun W (h : Below v5.heap.size v5 W) => Lzhx2_1 W (bel_step hc5 h)
        have Lzhx3_2 := fun W (h : Below v5.heap.size v5 W) => Lzhx3_1 W (bel_step hc5 h)
        have Lzhy0_2 := fun W (h : Below v5.heap.size v5 W) => Lzhy0_1 W (bel_step hc5 h)
        have Lzhy1_2 := fun W (h : Below v5.heap.size v5 W) => Lzhy1_1 W (bel_step hc5 h)
        have Lzhy2_2 := fun W (h : Below v5.heap.size v5 W) => Lzhy2_1 W (bel_step hc5 h)
        have Lzhy3_2 := fun W (h : Below v5.heap.size v5 W) => Lzhy3_1 W (bel_step hc5 h)
        clear Lzhx0_1 Lzhx1_1 Lzhx2_1 Lzhx3_1 Lzhy0_1 Lzhy1_1 Lzhy2_1 Lzhy3_1
        iterate 6 (refine wpSeq_take (o := ⟨_, _, _, _, _, _⟩) (v := ?_) rfl rfl ?_ ?_; rotate_left; (focus (intro W hW; go_simp; first | done | with_reducible rfl)); simp only [Act.put, List.setIfInBounds_toArray, List.set_cons_zero, List.set_cons_succ])
        iterate 2 (refine wpSeq_skip (o := ⟨_, _, _, _, _, _⟩) rfl rfl ?_; simp only [Act.put, List.setIfInBounds_toArray, List.set_cons_zero, List.set_cons_succ])
        iterate 5 (refine wpSeq_take (o := ⟨_, _, _, _, _, _⟩) (v := ?_) rfl rfl ?_ ?_; rotate_left; (focus (intro W hW; go_simp; first | done | with_reducible rfl)); simp only [Act.put, List.setIfInBounds_toArray, List.set_cons_zero, List.set_cons_succ])
        have C18 := Lib.hid (HD1.out _ _ _ HQ_28.out)
        try simp only [qV] at C18
        refine wpSeq_exec (o := ⟨_, _, _, _, _, _⟩) rfl rfl (fun K hK => ?_)
        go_simp
        (with_reducible refine (C18.out).mono ?_)
        rintro e v6 ⟨rfl, hc6⟩
        go_wp2_with fail
        refine hK _ _ hc6 ?_
        clear hK K
        have HX_31 := Lib.hid (HX_26.out.below hc6 HX_26.out.lt)
        have HY_32 := Lib.hid (HY_27.out.below hc6 HY_27.out.lt)
        have HQ_33 := Lib.hid (HQ_28.out.bel hc6)
        have HR_34 := Lib.hid (HR_29.out.bel hc6)
        have BB_35 := Lib.hid (bel_step BB_30.out hc6)
        clear HX_26 HY_27 HQ_28 HR_29 BB_30
        have Lzhx0_3 := fun W (h : Below v6.heap.size v6 W) => Lzhx0_2 W (bel_step hc6 h)
        have Lzhx1_3 := fun W (h : Below v6.heap.size v6 W) => Lzhx1_2 W (bel_step hc6 h)
        have Lzhx2_3 := fun W (h : Below v6.heap.size v6 W) => Lzhx2_2 W (bel_step hc6 h)
        have Lzhx3_3 := fun W (h : Below v6.heap.size v6 W) => Lzhx3_2 W (bel_step hc6 h)
        have Lzhy0_3 := fun W (h : Below v6.heap.size v6 W) => Lzhy0_2 W (bel_step hc6 h)
        have Lzhy1_3 := fun W (h : Below v6.heap.size v6 W) => Lzhy1_2 W (bel_step hc6 h)
        have Lzhy2_3 := fun W (h : Below v6.heap.size v6 W) => Lzhy2_2 W (bel_step hc6 h)
        have Lzhy3_3 := fun W (h : Below v6.heap.size v6 W) => Lzhy3_2 W (bel_step hc6 h)
        clear Lzhx0_2 Lzhx1_2 Lzhx2_2 Lzhx3_2 Lzhy0_2 Lzhy1_2 Lzhy2_2 Lzhy3_2
        have C20 := Lib.hid (HD2.out _ _ _ HQ_33.out)
        try simp only [qV] at C20
        refine wpSeq_exec (o := ⟨_, _, _, _, _, _⟩) rfl rfl (fun K hK => ?_)
        go_simp
        (with_reducible refine (C20.out).mono ?_)
        rintro e v7 ⟨rfl, hc7⟩
        go_wp2_with fail
        refine hK _ _ hc7 ?_
        clear hK K
        have HX_36 := Lib.hid (HX_31.out.below hc7 HX_31.out.lt)
        have HY_37 := Lib.hid (HY_32.out.below hc7 HY_32.out.lt)
        have HQ_38 := Lib.hid (HQ_33.out.bel hc7)
        have HR_39 := Lib.hid (HR_34.out.bel hc7)
        have BB_40 := Lib.hid (bel_step BB_35.out hc7)
        clear HX_31 HY_32 HQ_33 HR_34 BB_35
        have Lzhx0_4 := fun W (h : Below v7.heap.size v7 W) => Lzhx0_3 W (bel_step hc7 h)
        have Lzhx1_4 := fun W (h : Below v7.heap.size v7 W) => Lzhx1_3 W (bel_step hc7 h)
        have Lzhx2_4 := fun W (h : Below v7.heap.size v7 W) => Lzhx2_3 W (bel_step hc7 h)
        have Lzhx3_4 := fun W (h : Below v7.heap.size v7 W) => Lzhx3_3 W (bel_step hc7 h)
        have Lzhy0_4 := fun W (h : Below v7.heap.size v7 W) => Lzhy0_3 W (bel_step hc7 h)
        have Lzhy1_4 := fun W (h : Below v7.heap.size v7 W) => Lzhy1_3 W (bel_step hc7 h)
        have Lzhy2_4 := fun W (h : Below v7.heap.size v7 W) => Lzhy2_3 W (bel_step hc7 h)
        have Lzhy3_4 := fun W (h : Below v7.heap.size v7 W) => Lzhy3_3 W (bel_step hc7 h)
        clear Lzhx0_3 Lzhx1_3 Lzhx2_3 Lzhx3_3 Lzhy0_3 Lzhy1_3 Lzhy2_3 Lzhy3_3
        iterate 5 (refine wpSeq_take (o := ⟨_, _, _, _, _, _⟩) (v := ?_) rfl rfl ?_ ?_; rotate_left; (focus (intro W hW; go_simp; first | done | with_reducible rfl)); simp only [Act.put, List.setIfInBounds_toArray, List.set_cons_zero, List.set_cons_succ])
        have C25 := Lib.hid (HN1.out _ _ _ HQ_38.out)
        try simp only [qV] at C25
        refine wpSeq_exec (o := ⟨_, _, _, _, _, _⟩) rfl rfl (fun K hK => ?_)
        go_simp
        (with_reducible refine (C25.out).mono ?_)
        rintro e v8 ⟨rfl, hc8⟩
        go_wp2_with fail
        refine hK _ _ hc8 ?_
        clear hK K
        have HX_41 := Lib.hid (HX_36.out.below hc8 HX_36.out.lt)
        have HY_42 := Lib.hid (HY_37.out.below hc8 HY_37.out.lt)
        have HQ_43 := Lib.hid (HQ_38.out.bel hc8)
        have HR_44 := Lib.hid (HR_39.out.bel hc8)
        have BB_45 := Lib.hid (bel_step BB_40.out hc8)
        clear HX_36 HY_37 HQ_38 HR_39 BB_40
        have Lzhx0_5 := fun W (h : Below v8.heap.size v8 W) => Lzhx0_4 W (bel_step hc8 h)
        have Lzhx1_5 := fun W (h : Below v8.heap.size v8 W) => Lzhx1_4 W (bel_step hc8 h)
        have Lzhx2_5 := fun W (h : Below v8.heap.size v8 W) => Lzhx2_4 W (bel_step hc8 h)
        have Lzhx3_5 := fun W (h : Below v8.heap.size v8 W) => Lzhx3_4 W (bel_step hc8 h)
        have Lzhy0_5 := fun W (h : Below v8.heap.size v8 W) => Lzhy0_4 W (bel_step hc8 h)
        have Lzhy1_5 := fun W (h : Below v8.heap.size v8 W) => Lzhy1_4 W (bel_step hc8 h)
        have Lzhy2_5 := fun W (h : Below v8.heap.size v8 W) => Lzhy2_4 W (bel_step hc8 h)
        have Lzhy3_5 := fun W (h : Below v8.heap.size v8 W) => Lzhy3_4 W (bel_step hc8 h)
        clear Lzhx0_4 Lzhx1_4 Lzhx2_4 Lzhx3_4 Lzhy0_4 Lzhy1_4 Lzhy2_4 Lzhy3_4
        have C27 := Lib.hid (HN2.out _ _ _ HQ_43.out)
        try simp only [qV] at C27
        refine wpSeq_exec (o := ⟨_, _, _, _, _, _⟩) rfl rfl (fun K hK => ?_)
        go_simp
        (with_reducible refine (C27.out).mono ?_)
        rintro e v9 ⟨rfl, hc9⟩
        go_wp2_with fail
        refine hK _ _ hc9 ?_
        clear hK K
        have HX_46 := Lib.hid (HX_41.out.below hc9 HX_41.out.lt)
        have HY_47 := Lib.hid (HY_42.out.below hc9 HY_42.out.lt)
        have HQ_48 := Lib.hid (HQ_43.out.bel hc9)
        have HR_49 := Lib.hid (HR_44.out.bel hc9)
        have BB_50 := Lib.hid (bel_step BB_45.out hc9)
        clear HX_41 HY_42 HQ_43 HR_44 BB_45
        have Lzhx0_6 := fun W (h : Below v9.heap.size v9 W) => Lzhx0_5 W (bel_step hc9 h)
        have Lzhx1_6 := fun W (h : Below v9.heap.size v9 W) => Lzhx1_5 W (bel_step hc9 h)
        have Lzhx2_6 := fun W (h : Below v9.heap.size v9 W) => Lzhx2_5 W (bel_step hc9 h)
        have Lzhx3_6 := fun W (h : Below v9.heap.size v9 W) => Lzhx3_5 W (bel_step hc9 h)
        have Lzhy0_6 := fun W (h : Below v9.heap.size v9 W) => Lzhy0_5 W (bel_step hc9 h)
        have Lzhy1_6 := fun W (h : Below v9.heap.size v9 W) => Lzhy1_5 W (bel_step hc9 h)
        have Lzhy2_6 := fun W (h : Below v9.heap.size v9 W) => Lzhy2_5 W (bel_step hc9 h)
        have Lzhy3_6 := fun W (h : Below v9.heap.size v9 W) => Lzhy3_5 W (bel_step hc9 h)
        clear Lzhx0_5 Lzhx1_5 Lzhx2_5 Lzhx3_5 Lzhy0_5 Lzhy1_5 Lzhy2_5 Lzhy3_5
        iterate 7 (refine wpSeq_take (o := ⟨_, _, _, _, _, _⟩) (v := ?_) rfl rfl ?_ ?_; rotate_left; (focus (intro W hW; go_simp; first | done | with_reducible rfl)); simp only [Act.put, List.setIfInBounds_toArray, List.set_cons_zero, List.set_cons_succ])
        have C33 := Lib.hid (HS1.out _ _ _ _ _ HQ_48.out HR_49.out)
        try simp only [qV] at C33
        refine wpSeq_exec (o := ⟨_, _, _, _, _, _⟩) rfl rfl (fun K hK => ?_)
        go_simp
        (with_reducible refine (C33.out).mono ?_)
        rintro e v10 ⟨rfl, hc10⟩
        go_wp2_with fail
        refine hK _ _ hc10 ?_
        clear hK K
        have HX_51 := Lib.hid (HX_46.out.below hc10 HX_46.out.lt)
        have HY_52 := Lib.hid (HY_47.out.below hc10 HY_47.out.lt)
        have HQ_53 := Lib.hid (HQ_48.out.bel hc10)
        have HR_54 := Lib.hid (HR_49.out.bel hc10)
        have BB_55 := Lib.hid (bel_step BB_50.out hc10)
        clear HX_46 HY_47 HQ_48 HR_49 BB_50
        have Lzhx0_7 := fun W (h : Below v10.heap.size v10 W) => Lzhx0_6 W (bel_step hc10 h)
        have Lzhx1_7 := fun W (h : Below v10.heap.size v10 W) => Lzhx1_6 W (bel_step hc10 h)
        have Lzhx2_7 := fun W (h : Below v10.heap.size v10 W) => Lzhx2_6 W (bel_step hc10 h)
        have Lzhx3_7 := fun W (h : Below v10.heap.size v10 W) => Lzhx3_6 W (bel_step hc10 h)
        have Lzhy0_7 := fun W (h : Below v10.heap.size v10 W) => Lzhy0_6 W (bel_step hc10 h)
        have Lzhy1_7 := fun W (h : Below v10.heap.size v10 W) => Lzhy1_6 W (bel_step hc10 h)
        have Lzhy2_7 := fun W (h : Below v10.heap.size v10 W) => Lzhy2_6 W (bel_step hc10 h)
        have Lzhy3_7 := fun W (h : Below v10.heap.size v10 W) => Lzhy3_6 W (bel_step hc10 h)
        clear Lzhx0_6 Lzhx1_6 Lzhx2_6 Lzhx3_6 Lzhy0_6 Lzhy1_6 Lzhy2_6 Lzhy3_6
        have C36 := Lib.hid (HS2.out _ _ _ _ _ HQ_53.out HR_54.out)
        try simp only [qV] at C36
        refine wpSeq_exec (o := ⟨_, _, _, _, _, _⟩) rfl rfl (fun K hK => ?_)
        go_simp
        (with_reducible refine (C36.out).mono ?_)
        rintro e v11 ⟨rfl, hc11⟩
        go_wp2_with fail
        refine hK _ _ hc11 ?_
        clear hK K
        have HX_56 := Lib.hid (HX_51.out.below hc11 HX_51.out.lt)
        have HY_57 := Lib.hid (HY_52.out.below hc11 HY_52.out.lt)
        have HQ_58 := Lib.hid (HQ_53.out.bel hc11)
        have HR_59 := Lib.hid (HR_54.out.bel hc11)
        have BB_60 := Lib.hid (bel_step BB_55.out hc11)
        clear HX_51 HY_52 HQ_53 HR_54 BB_55
        have Lzhx0_8 := fun W (h : Below v11.heap.size v11 W) => Lzhx0_7 W (bel_step hc11 h)
        have Lzhx1_8 := fun W (h : Below v11.heap.size v11 W) => Lzhx1_7 W (bel_step hc11 h)
        have Lzhx2_8 := fun W (h : Below v11.heap.size v11 W) => Lzhx2_7 W (bel_step hc11 h)
        have Lzhx3_8 := fun W (h : Below v11.heap.size v11 W) => Lzhx3_7 W (bel_step hc11 h)
        have Lzhy0_8 := fun W (h : Below v11.heap.size v11 W) => Lzhy0_7 W (bel_step hc11 h)
        have Lzhy1_8 := fun W (h : Below v11.heap.size v11 W) => Lzhy1_7 W (bel_step hc11 h)
        have Lzhy2_8 := fun W (h : Below v11.heap.size v11 W) => Lzhy2_7 W (bel_step hc11 h)
        have Lzhy3_8 := fun W (h : Below v11.heap.size v11 W) => Lzhy3_7 W (bel_step hc11 h)
        clear Lzhx0_7 Lzhx1_7 Lzhx2_7 Lzhx3_7 Lzhy0_7 Lzhy1_7 Lzhy2_7 Lzhy3_7
        iterate 3 (refine wpSeq_take (o := ⟨_, _, _, _, _, _⟩) (v := ?_) rfl rfl ?_ ?_; rotate_left; (focus (intro W hW; go_simp; first | done | with_reducible rfl)); simp only [Act.put, List.setIfInBounds_toArray, List.set_cons_zero, List.set_cons_succ])
        refine wpSeq_nil ?_
        go_wp2_with fail
        go_ret
        exact ⟨by simp, BB_60.out⟩
      | false =>
        rw [HE2.out]
        go_wp2_with fail
        refine wp_region_seq (by kernel_rfl) [(0, false), (1, true), (2, true), (3, true), (4, true), (5, false), (6, true), (7, true), (8, true), (9, true), (10, true), (11, true), (12, true), (13, true), (14, true), (15, true), (16, true), (17, true), (19, true), (18, false), (20, false), (21, true), (22, true), (23, true), (24, true), (26, true), (25, false), (27, false), (28, true), (29, true), (30, true), (31, true), (32, true), (34, true), (35, true), (33, false), (36, false), (37, true), (38, true), (39, true)] (by kernel_rfl) rfl (by kernel_rfl) ?_
        intro w0 hb0
        have HX_16 := Lib.hid (HX_11.out.below hb0 HX_11.out.lt)
        have HY_17 := Lib.hid (HY_12.out.below hb0 HY_12.out.lt)
        have HQ_18 := Lib.hid (HQ_13.out.bel hb0)
        have HR_19 := Lib.hid (HR_14.out.bel hb0)
        have BB_20 := Lib.hid (bel_step BB_15.out hb0)
        clear HX_11 HY_12 HQ_13 HR_14 BB_15
        obtain ⟨zhx0, zhx1, zhx2, zhx3⟩ := box_facts HX_16.out
        obtain ⟨zhy0, zhy1, zhy2, zhy3⟩ := box_facts HY_17.out
        try simp only [qV] at zhx0 zhx1 zhx2 zhx3 zhy0 zhy1 zhy2 zhy3
        have Lzhx0_0 := later zhx0
        have Lzhx1_0 := later zhx1
        have Lzhx2_0 := later zhx2
        have Lzhx3_0 := later zhx3
        have Lzhy0_0 := later zhy0
        have Lzhy1_0 := later zhy1
        have Lzhy2_0 := later zhy2
        have Lzhy3_0 := later zhy3
        clear zhx0 zhx1 zhx2 zhx3 zhy0 zhy1 zhy2 zhy3
        refine wpSeq_exec (o := ⟨_, _, _, _, _, _⟩) rfl rfl (fun K hK => ?_)
        go_simp
        (with_reducible refine (lives25_any _).mono ?_)
        rintro e v4 ⟨rfl, hc4⟩
        go_wp2_with fail
        refine hK _ _ hc4 ?_
        clear hK K
        have HX_21 := Lib.hid (HX_16.out.below hc4 HX_16.out.lt)
        have HY_22 := Lib.hid (HY_17.out.below hc4 HY_17.out.lt)
        have HQ_23 := Lib.hid (HQ_18.out.bel hc4)
        have HR_24 := Lib.hid (HR_19.out.bel hc4)
        have BB_25 := Lib.hid (bel_step BB_20.out hc4)
        clear HX_16 HY_17 HQ_18 HR_19 BB_20
        have Lzhx0_1 := fun W (h : Below v4.heap.size v4 W) => Lzhx0_0 W (bel_step hc4 h)
        have Lzhx1_1 := fun W (h : Below v4.heap.size v4 W) => Lzhx1_0 W (bel_step hc4 h)
        have Lzhx2_1 := fun W (h : Below v4.heap.size v4 W) => Lzhx2_0 W (bel_step hc4 h)
        have Lzhx3_1 := fun W (h : Below v4.heap.size v4 W) => Lzhx3_0 W (bel_step hc4 h)
        have Lzhy0_1 := fun W (h : Below v4.heap.size v4 W) => Lzhy0_0 W (bel_step hc4 h)
        have Lzhy1_1 := fun W (h : Below v4.heap.size v4 W) => Lzhy1_0 W (bel_step hc4 h)
        have Lzhy2_1 := fun W (h : Below v4.heap.size v4 W) => Lzhy2_0 W (bel_step hc4 h)
        have Lzhy3_1 := fun W (h : Below v4.heap.size v4 W) => Lzhy3_0 W (bel_step hc4 h)
        clear Lzhx0_0 Lzhx1_0 Lzhx2_0 Lzhx3_0 Lzhy0_0 Lzhy1_0 Lzhy2_0 Lzhy3_0
        iterate 4 (refine wpSeq_take (o := ⟨_, _, _, _, _, _⟩) (v := ?_) rfl rfl ?_ ?_; rotate_left; (focus (intro W hW; go_simp; first | done | with_reducible rfl)); simp only [Act.put, List.setIfInBounds_toArray, List.set_cons_zero, List.set_cons_succ])
        have C5 := Lib.hid (HRC.out _ _ _ HQ_23.out)
        try simp only [qV] at C5
        refine wpSeq_exec (o := ⟨_, _, _, _, _, _⟩) rfl rfl (fun K hK => ?_)
        go_simp
        (with_reducible refine (C5.out).mono ?_)
        rintro e v5 ⟨rfl, hc5⟩
        go_wp2_with fail
        refine hK _ _ hc5 ?_
        clear hK K
        have HX_26 := Lib.hid (HX_21.out.below hc5 HX_21.out.lt)
        have HY_27 := Lib.hid (HY_22.out.below hc5 HY_22.out.lt)
        have HQ_28 := Lib.hid (HQ_23.out.bel hc5)
        have HR_29 := Lib.hid (HR_24.out.bel hc5)
        have BB_30 := Lib.hid (bel_step BB_25.out hc5)
        clear HX_21 HY_22 HQ_23 HR_24 BB_25
        have Lzhx0_2 := fun W (h : Below v5.heap.size v5 W) => Lzhx0_1 W (bel_step hc5 h)
        have Lzhx1_2 := fun W (h : Below v5.heap.size v5 W) => Lzhx1_1 W (bel_step hc5 h)
        have Lzhx2_2 := fun W (h : Below v5.heap.size v5 W) => Lzhx2_1 W (bel_step hc5 h)
        have Lzhx3_2 := fun W (h : Below v5.heap.size v5 W) => Lzhx3_1 W (bel_step hc5 h)
        have Lzhy0_2 := fun W (h : Below v5.heap.size v5 W) => Lzhy0_1 W (bel_step hc5 h)
        have Lzhy1_2 := fun W (h : Below v5.heap.size v5 W) => Lzhy1_1 W (bel_step hc5 h)
        have Lzhy2_2 := fun W (h : Below v5.heap.size v5 W) => Lzhy2_1 W (bel_step hc5 h)
        have Lzhy3_2 := fun W (h : Below v5.heap.size v5 W) => Lzhy3_1 W (bel_step hc5 h)
        clear Lzhx0_1 Lzhx1_1 Lzhx2_1 Lzhx3_1 Lzhy0_1 Lzhy1_1 Lzhy2_1 Lzhy3_1
        iterate 13 (refine wpSeq_take (o := ⟨_, _, _, _, _, _⟩) (v := ?_) rfl rfl ?_ ?_; rotate_left; (focus (intro W hW; go_simp; first | done | with_reducible rfl)); simp only [Act.put, List.setIfInBounds_toArray, List.set_cons_zero, List.set_cons_succ])
        have C18 := Lib.hid (HD1.out _ _ _ HQ_28.out)
        try simp only [qV] at C18
        refine wpSeq_exec (o := ⟨_, _, _, _, _, _⟩) rfl rfl (fun K hK => ?_)
        go_simp
        (with_reducible refine (C18.out).mono ?_)
        rintro e v6 ⟨rfl, hc6⟩
        go_wp2_with fail
        refine hK _ _ hc6 ?_
        clear hK K
        have HX_31 := Lib.hid (HX_26.out.below hc6 HX_26.out.lt)
        have HY_32 := Lib.hid (HY_27.out.below hc6 HY_27.out.lt)
        have HQ_33 := Lib.hid (HQ_28.out.bel hc6)
        have HR_34 := Lib.hid (HR_29.out.bel hc6)
        have BB_35 := Lib.hid (bel_step BB_30.out hc6)
        clear HX_26 HY_27 HQ_28 HR_29 BB_30
        have Lzhx0_3 := fun W (h : Below v6.heap.size v6 W) => Lzhx0_2 W (bel_step hc6 h)
        have Lzhx1_3 := fun W (h : Below v6.heap.size v6 W) => Lzhx1_2 W (bel_step hc6 h)
        have Lzhx2_3 := fun W (h : Below v6.heap.size v6 W) => Lzhx2_2 W (bel_step hc6 h)
        have Lzhx3_3 := fun W (h : Below v6.heap.size v6 W) => Lzhx3_2 W (bel_step hc6 h)
        have Lzhy0_3 := fun W (h : Below v6.heap.size v6 W) => Lzhy0_2 W (bel_step hc6 h)
        have Lzhy1_3 := fun W (h : Below v6.heap.size v6 W) => Lzhy1_2 W (bel_step hc6 h)
        have Lzhy2_3 := fun W (h : Below v6.heap.size v6 W) => Lzhy2_2 W (bel_step hc6 h)
        have Lzhy3_3 := fun W (h : Below v6.heap.size v6 W) => Lzhy3_2 W (bel_step hc6 h)
        clear Lzhx0_2 Lzhx1_2 Lzhx2_2 Lzhx3_2 Lzhy0_2 Lzhy1_2 Lzhy2_2 Lzhy3_2
        have C20 := Lib.hid (HD2.out _ _ _ HQ_33.out)
        try simp only [qV] at C20
        refine wpSeq_exec (o := ⟨_, _, _, _, _, _⟩) rfl rfl (fun K hK => ?_)
        go_simp
        (with_reducible refine (C20.out).mono ?_)
        rintro e v7 ⟨rfl, hc7⟩
        go_wp2_with fail
        refine hK _ _ hc7 ?_
        clear hK K
        have HX_36 := Lib.hid (HX_31.out.below hc7 HX_31.out.lt)
        have HY_37 := Lib.hid (HY_32.out.below hc7 HY_32.out.lt)
        have HQ_38 := Lib.hid (HQ_33.out.bel hc7)
        have HR_39 := Lib.hid (HR_34.out.bel hc7)
        have BB_40 := Lib.hid (bel_step BB_35.out hc7)
        clear HX_31 HY_32 HQ_33 HR_34 BB_35
        have Lzhx0_4 := fun W (h : Below v7.heap.size v7 W) => Lzhx0_3 W (bel_step hc7 h)
        have Lzhx1_4 := fun W (h : Below v7.heap.size v7 W) => Lzhx1_3 W (bel_step hc7 h)
        have Lzhx2_4 := fun W (h : Below v7.heap.size v7 W) => Lzhx2_3 W (bel_step hc7 h)
        have Lzhx3_4 := fun W (h : Below v7.heap.size v7 W) => Lzhx3_3 W (bel_step hc7 h)
        have Lzhy0_4 := fun W (h : Below v7.heap.size v7 W) => Lzhy0_3 W (bel_step hc7 h)
        have Lzhy1_4 := fun W (h : Below v7.heap.size v7 W) => Lzhy1_3 W (bel_step hc7 h)
        have Lzhy2_4 := fun W (h : Below v7.heap.size v7 W) => Lzhy2_3 W (bel_step hc7 h)
        have Lzhy3_4 := fun W (h : Below v7.heap.size v7 W) => Lzhy3_3 W (bel_step hc7 h)
        clear Lzhx0_3 Lzhx1_3 Lzhx2_3 Lzhx3_3 Lzhy0_3 Lzhy1_3 Lzhy2_3 Lzhy3_3
        iterate 5 (refine wpSeq_take (o := ⟨_, _, _, _, _, _⟩) (v := ?_) rfl rfl ?_ ?_; rotate_left; (focus (intro W hW; go_simp; first | done | with_reducible rfl)); simp only [Act.put, List.setIfInBounds_toArray, List.set_cons_zero, List.set_cons_succ])
        have C25 := Lib.hid (HN1.out _ _ _ HQ_38.out)
        try simp only [qV] at C25
        refine wpSeq_exec (o := ⟨_, _, _, _, _, _⟩) rfl rfl (fun K hK => ?_)
        go_simp
        (with_reducible refine (C25.out).mono ?_)
        rintro e v8 ⟨rfl, hc8⟩
        go_wp2_with fail
        refine hK _ _ hc8 ?_
        clear hK K
        have HX_41 := Lib.hid (HX_36.out.below hc8 HX_36.out.lt)
        have HY_42 := Lib.hid (HY_37.out.below hc8 HY_37.out.lt)
        have HQ_43 := Lib.hid (HQ_38.out.bel hc8)
        have HR_44 := Lib.hid (HR_39.out.bel hc8)
        have BB_45 := Lib.hid (bel_step BB_40.out hc8)
        clear HX_36 HY_37 HQ_38 HR_39 BB_40
        have Lzhx0_5 := fun W (h : Below v8.heap.size v8 W) => Lzhx0_4 W (bel_step hc8 h)
        have Lzhx1_5 := fun W (h : Below v8.heap.size v8 W) => Lzhx1_4 W (bel_step hc8 h)
        have Lzhx2_5 := fun W (h : Below v8.heap.size v8 W) => Lzhx2_4 W (bel_step hc8 h)
        have Lzhx3_5 := fun W (h : Below v8.heap.size v8 W) => Lzhx3_4 W (bel_step hc8 h)
        have Lzhy0_5 := fun W (h : Below v8.heap.size v8 W) => Lzhy0_4 W (bel_step hc8 h)
        have Lzhy1_5 := fun W (h : Below v8.heap.size v8 W) => Lzhy1_4 W (bel_step hc8 h)
        have Lzhy2_5 := fun W (h : Below v8.heap.size v8 W) => Lzhy2_4 W (bel_step hc8 h)
        have Lzhy3_5 := fun W (h : Below v8.heap.size v8 W) => Lzhy3_4 W (bel_step hc8 h)
        clear Lzhx0_4 Lzhx1_4 Lzhx2_4 Lzhx3_4 Lzhy0_4 Lzhy1_4 Lzhy2_4 Lzhy3_4
        have C27 := Lib.hid (HN2.out _ _ _ HQ_43.out)
        try simp only [qV] at C27
        refine wpSeq_exec (o := ⟨_, _, _, _, _, _⟩) rfl rfl (fun K hK => ?_)
        go_simp
        (with_reducible refine (C27.out).mono ?_)
        rintro e v9 ⟨rfl, hc9⟩
        go_wp2_with fail
        refine hK _ _ hc9 ?_
        clear hK K
        have HX_46 := Lib.hid (HX_41.out.below hc9 HX_41.out.lt)
        have HY_47 := Lib.hid (HY_42.out.below hc9 HY_42.out.lt)
        have HQ_48 := Lib.hid (HQ_43.out.bel hc9)
        have HR_49 := Lib.hid (HR_44.out.bel hc9)
        have BB_50 := Lib.hid (bel_step BB_45.out hc9)
        clear HX_41 HY_42 HQ_43 HR_44 BB_45
        have Lzhx0_6 := fun W (h : Below v9.heap.size v9 W) => Lzhx0_5 W (bel_step hc9 h)
        have Lzhx1_6 := fun W (h : Below v9.heap.size v9 W) => Lzhx1_5 W (bel_step hc9 h)
        have Lzhx2_6 := fun W (h : Below v9.heap.size v9 W) => Lzhx2_5 W (bel_step hc9 h)
        have Lzhx3_6 := fun W (h : Below v9.heap.size v9 W) => Lzhx3_5 W (bel_step hc9 h)
        have Lzhy0_6 := fun W (h : Below v9.heap.size v9 W) => Lzhy0_5 W (bel_step hc9 h)
        have Lzhy1_6 := fun W (h : Below v9.heap.size v9 W) => Lzhy1_5 W (bel_step hc9 h)
        have Lzhy2_6 := fun W (h : Below v9.heap.size v9 W) => Lzhy2_5 W (bel_step hc9 h)
        have Lzhy3_6 := fun W (h : Below v9.heap.size v9 W) => Lzhy3_5 W (bel_step hc9 h)
        clear Lzhx0_5 Lzhx1_5 Lzhx2_5 Lzhx3_5 Lzhy0_5 Lzhy1_5 Lzhy2_5 Lzhy3_5
        iterate 7 (refine wpSeq_take (o := ⟨_, _, _, _, _, _⟩) (v := ?_) rfl rfl ?_ ?_; rotate_left; (focus (intro W hW; go_simp; first | done | with_reducible rfl)); simp only [Act.put, List.setIfInBounds_toArray, List.set_cons_zero, List.set_cons_succ])
        have C33 := Lib.hid (HS1.out _ _ _ _ _ HQ_48.out HR_49.out)
        try simp only [qV] at C33
        refine wpSeq_exec (o := ⟨_, _, _, _, _, _⟩) rfl rfl (fun K hK => ?_)
        go_simp
        (with_reducible refine (C33.out).mono ?_)
        rintro e v10 ⟨rfl, hc10⟩
        go_wp2_with fail
        refine hK _ _ hc10 ?_
        clear hK K
        have HX_51 := Lib.hid (HX_46.out.below hc10 HX_46.out.lt)
        have HY_52 := Lib.hid (HY_47.out.below hc10 HY_47.out.lt)
        have HQ_53 := Lib.hid (HQ_48.out.bel hc10)
        have HR_54 := Lib.hid (HR_49.out.bel hc10)
        have BB_55 := Lib.hid (bel_step BB_50.out hc10)
        clear HX_46 HY_47 HQ_48 HR_49 BB_50
        have Lzhx0_7 := fun W (h : Below v10.heap.size v10 W) => Lzhx0_6 W (bel_step hc10 h)
        have Lzhx1_7 := fun W (h : Below v10.heap.size v10 W) => Lzhx1_6 W (bel_step hc10 h)
        have Lzhx2_7 := fun W (h : Below v10.heap.size v10 W) => Lzhx2_6 W (bel_step hc10 h)
        have Lzhx3_7 := fun W (h : Below v10.heap.size v10 W) => Lzhx3_6 W (bel_step hc10 h)
        have Lzhy0_7 := fun W (h : Below v10.heap.size v10 W) => Lzhy0_6 W (bel_step hc10 h)
        have Lzhy1_7 := fun W (h : Below v10.heap.size v10 W) => Lzhy1_6 W (bel_step hc10 h)
        have Lzhy2_7 := fun W (h : Below v10.heap.size v10 W) => Lzhy2_6 W (bel_step hc10 h)
        have Lzhy3_7 := fun W (h : Below v10.heap.size v10 W) => Lzhy3_6 W (bel_step hc10 h)
        clear Lzhx0_6 Lzhx1_6 Lzhx2_6 Lzhx3_6 Lzhy0_6 Lzhy1_6 Lzhy2_6 Lzhy3_6
        have C36 := Lib.hid (HS2.out _ _ _ _ _ HQ_53.out HR_54.out)
        try simp only [qV] at C36
        refine wpSeq_exec (o := ⟨_, _, _, _, _, _⟩) rfl rfl (fun K hK => ?_)
        go_simp
        (with_reducible refine (C36.out).mono ?_)
        rintro e v11 ⟨rfl, hc11⟩
        go_wp2_with fail
        refine hK _ _ hc11 ?_
        clear hK K
        have HX_56 := Lib.hid (HX_51.out.below hc11 HX_51.out.lt)
        have HY_57 := Lib.hid (HY_52.out.below hc11 HY_52.out.lt)
        have HQ_58 := Lib.hid (HQ_53.out.bel hc11)
        have HR_59 := Lib.hid (HR_54.out.bel hc11)
        have BB_60 := Lib.hid (bel_step BB_55.out hc11)
        clear HX_51 HY_52 HQ_53 HR_54 BB_55
        have Lzhx0_8 := fun W (h : Below v11.heap.size v11 W) => Lzhx0_7 W (bel_step hc11 h)
        have Lzhx1_8 := fun W (h : Below v11.heap.size v11 W) => Lzhx1_7 W (bel_step hc11 h)
        have Lzhx2_8 := fun W (h : Below v11.heap.size v11 W) => Lzhx2_7 W (bel_step hc11 h)
        have Lzhx3_8 := fun W (h : Below v11.heap.size v11 W) => Lzhx3_7 W (bel_step hc11 h)
        have Lzhy0_8 := fun W (h : Below v11.heap.size v11 W) => Lzhy0_7 W (bel_step hc11 h)
        have Lzhy1_8 := fun W (h : Below v11.heap.size v11 W) => Lzhy1_7 W (bel_step hc11 h)
        have Lzhy2_8 := fun W (h : Below v11.heap.size v11 W) => Lzhy2_7 W (bel_step hc11 h)
        have Lzhy3_8 := fun W (h : Below v11.heap.size v11 W) => Lzhy3_7 W (bel_step hc11 h)
        clear Lzhx0_7 Lzhx1_7 Lzhx2_7 Lzhx3_7 Lzhy0_7 Lzhy1_7 Lzhy2_7 Lzhy3_7
        iterate 3 (refine wpSeq_take (o := ⟨_, _, _, _, _, _⟩) (v := ?_) rfl rfl ?_ ?_; rotate_left; (focus (intro W hW; go_simp; first | done | with_reducible rfl)); simp only [Act.put, List.setIfInBounds_toArray, List.set_cons_zero, List.set_cons_succ])
        refine wpSeq_nil ?_
        go_wp2_with fail
        go_ret
        exact ⟨by simp, BB_60.out⟩
set_option maxHeartbeats 8000000 in
theorem qtreeShape_walk (q : Qy) (vs : Array Value) (w : World) (hq : QAt w (fun _ => True) vs q) : Calls Try.prog 5 #[.agg vs] w (RetTrue w) := by
  have B0 := bel_alloc (Below.refl w.heap.size w) (.cells vs 24)
  have HX0 := Lib.hid (Blk.new w 24 vs)
  have HQ0 := Lib.hid (hq.bel B0)
  have HL := Lib.hid (Large25_any q vs _ _ HQ0.out)
  have hlg : ∀ b, decide (leftQ q 0 300 ≤ 0) = b → (b = false → Ask q) := fun b h hb => ask_of (h.trans hb)
  generalize decide (leftQ q 0 300 ≤ 0) = lg at *
  have HASK := Lib.hid (hlg lg rfl)
  clear hlg
  obtain ⟨A, c, rfl, -, -, -, -, -, -⟩ := hq.open_
  clear hq
  have HE1 : Hid (errV true = .int .i64 0) := Lib.hid rfl
  have HE2 : Hid (errV false = .int .i64 250) := Lib.hid rfl
  simp only [qV] at HL B0 ⊢
  go_enter Try.func5, Try.ntmps5
  go_wp2_with fail
  have HX_0 := HX0
  have HQ_0 := HQ0
  have BB_0 := Lib.hid B0
  clear HX0 HQ0 B0
  (with_reducible refine (HL.out).mono ?_)
  rintro e w1 ⟨rfl, hb1⟩
  have HX_1 := Lib.hid (HX_0.out.below hb1 HX_0.out.lt)
  have HQ_2 := Lib.hid (HQ_0.out.bel hb1)
  have BB_3 := Lib.hid (bel_step BB_0.out hb1)
  clear HX_0 HQ_0 BB_0
  cases lg with
  | true =>
    go_wp2_with fail
    (with_reducible refine (lives25_any _).mono ?_)
    rintro e w2 ⟨rfl, hb2⟩
    have HX_4 := Lib.hid (HX_1.out.below hb2 HX_1.out.lt)
    have HQ_5 := Lib.hid (HQ_2.out.bel hb2)
    have BB_6 := Lib.hid (bel_step BB_3.out hb2)
    clear HX_1 HQ_2 BB_3
    go_wp2_with fail
    go_ret
    exact ⟨rfl, BB_6.out⟩
  | false =>
    have hask := HASK.out (by simp)
    have HCK := Lib.hid (fun W vs S hW => refCheck25_any q hask vs W S hW)
    obtain ⟨zhx0, zhx1, zhx2, zhx3⟩ := box_facts HX_1.out
    try simp only [qV] at zhx0 zhx1 zhx2 zhx3
    have HC0 := Lib.hid (HCK.out _ _ _ HQ_2.out)
    try simp only [qV] at HC0
    cases hok : okQ q with
    | false =>
      rw [hok] at HC0
      clear hok hask
      go_wp2_with fail
      clear zhx0 zhx1 zhx2 zhx3
      (with_reducible refine (HC0.out).mono ?_)
      rintro e w2 ⟨rfl, hb2⟩
      have HX_4 := Lib.hid (HX_1.out.below hb2 HX_1.out.lt)
      have HQ_5 := Lib.hid (HQ_2.out.bel hb2)
      have BB_6 := Lib.hid (bel_step BB_3.out hb2)
      clear HX_1 HQ_2 BB_3
      go_wp2_with fail
      (with_reducible refine (lives25_any _).mono ?_)
      rintro e w3 ⟨rfl, hb3⟩
      have HX_7 := Lib.hid (HX_4.out.below hb3 HX_4.out.lt)
      have HQ_8 := Lib.hid (HQ_5.out.bel hb3)
      have BB_9 := Lib.hid (bel_step BB_6.out hb3)
      clear HX_4 HQ_5 BB_6
      go_wp2_with fail
      go_ret
      exact ⟨rfl, BB_9.out⟩
    | true =>
      rw [hok] at HC0
      obtain ⟨hsh, hnd, -, -, -, hnor, -⟩ := norm_facts hok hask
      have HN := Lib.hid (fun W vs S hW => Norm25_yes q hask hok vs W S hW)
      have HNO := Lib.hid (fun W vs S hW => normal25_yes (normQ q false) 0 vs W S hnor hW)
      clear hask hok hsh hnd hnor
      generalize normQ q false = X at *
      go_wp2_with fail
      clear zhx0 zhx1 zhx2 zhx3
      (with_reducible refine (HC0.out).mono ?_)
      rintro e w2 ⟨rfl, hb2⟩
      have HX_4 := Lib.hid (HX_1.out.below hb2 HX_1.out.lt)
      have HQ_5 := Lib.hid (HQ_2.out.bel hb2)
      have BB_6 := Lib.hid (bel_step BB_3.out hb2)
      clear HX_1 HQ_2 BB_3
      obtain ⟨zhx0, zhx1, zhx2, zhx3⟩ := box_facts HX_4.out
      try simp only [qV] at zhx0 zhx1 zhx2 zhx3
      have HC1 := Lib.hid (HN.out _ _ _ HQ_5.out)
      try simp only [qV] at HC1
      go_wp2_with fail
      clear zhx0 zhx1 zhx2 zhx3
      (with_reducible refine (HC1.out).mono ?_)
      rintro e wn1 ⟨vn, rfl, hqn, hbn1⟩
      have HZ := Lib.hid hqn
      obtain ⟨Az1, cz1, rfl, -, -, -, -, -, -⟩ := hqn.open_
      clear hqn
      have HX_7 := Lib.hid (HX_4.out.below hbn1 HX_4.out.lt)
      have HQ_8 := Lib.hid (HQ_5.out.bel hbn1)
      have BB_9 := Lib.hid (bel_step BB_6.out hbn1)
      clear HX_4 HQ_5 BB_6
      have Z1_10 := HZ
      clear HZ
      try simp only [qV]
      rw [HE1.out]
      have E_11 := bel_alloc (Below.refl wn1.heap.size wn1) (.cells (qV X.op X.n X.s Az1 X.kids.length cz1) 24)
      have HX_11 := Lib.hid (HX_7.out.below E_11 HX_7.out.lt)
      have HQ_12 := Lib.hid (HQ_8.out.bel E_11)
      have BB_13 := Lib.hid (bel_step BB_9.out E_11)
      have Z1_14 := Lib.hid (Z1_10.out.bel E_11)
      clear HX_7 HQ_8 BB_9 Z1_10
      clear E_11
      have HY_15 := Lib.hid (Blk.new wn1 24 (qV X.op X.n X.s Az1 X.kids.length cz1))
      go_wp2_with fail
      (with_reducible refine (lives25_any _).mono ?_)
      rintro e w3 ⟨rfl, hb3⟩
      have HX_16 := Lib.hid (HX_11.out.below hb3 HX_11.out.lt)
      have HQ_17 := Lib.hid (HQ_12.out.bel hb3)
      have BB_18 := Lib.hid (bel_step BB_13.out hb3)
      have Z1_19 := Lib.hid (Z1_14.out.bel hb3)
      have HY_20 := Lib.hid (HY_15.out.below hb3 HY_15.out.lt)
      clear HX_11 HQ_12 BB_13 Z1_14 HY_15
      obtain ⟨zhy0, zhy1, zhy2, zhy3⟩ := box_facts HY_20.out
      try simp only [qV] at zhy0 zhy1 zhy2 zhy3
      have HC2 := Lib.hid (HNO.out _ _ _ Z1_19.out)
      try simp only [qV] at HC2
      go_wp2_with fail
      clear zhy0 zhy1 zhy2 zhy3
      (with_reducible refine (HC2.out).mono ?_)
      rintro e w4 ⟨rfl, hb4⟩
      have HX_21 := Lib.hid (HX_16.out.below hb4 HX_16.out.lt)
      have HQ_22 := Lib.hid (HQ_17.out.bel hb4)
      have BB_23 := Lib.hid (bel_step BB_18.out hb4)
      have Z1_24 := Lib.hid (Z1_19.out.bel hb4)
      have HY_25 := Lib.hid (HY_20.out.below hb4 HY_20.out.lt)
      clear HX_16 HQ_17 BB_18 Z1_19 HY_20
      go_wp2_with fail
      go_ret
      exact ⟨rfl, BB_23.out⟩
set_option maxHeartbeats 8000000 in
theorem qtreeAgain_walk (q : Qy) (vs : Array Value) (w : World) (hq : QAt w (fun _ => True) vs q) : Calls Try.prog 6 #[.agg vs] w (RetTrue w) := by
  have B0 := bel_alloc (Below.refl w.heap.size w) (.cells vs 24)
  have HX0 := Lib.hid (Blk.new w 24 vs)
  have HQ0 := Lib.hid (hq.bel B0)
  have HL := Lib.hid (Large25_any q vs _ _ HQ0.out)
  have hlg : ∀ b, decide (leftQ q 0 300 ≤ 0) = b → (b = false → Ask q) := fun b h hb => ask_of (h.trans hb)
  generalize decide (leftQ q 0 300 ≤ 0) = lg at *
  have HASK := Lib.hid (hlg lg rfl)
  clear hlg
  obtain ⟨A, c, rfl, -, -, -, -, -, -⟩ := hq.open_
  clear hq
  have HE1 : Hid (errV true = .int .i64 0) := Lib.hid rfl
  have HE2 : Hid (errV false = .int .i64 250) := Lib.hid rfl
  simp only [qV] at HL B0 ⊢
  go_enter Try.func6, Try.ntmps6
  go_wp2_with fail
  have HX_0 := HX0
  have HQ_0 := HQ0
  have BB_0 := Lib.hid B0
  clear HX0 HQ0 B0
  (with_reducible refine (HL.out).mono ?_)
  rintro e w1 ⟨rfl, hb1⟩
  have HX_1 := Lib.hid (HX_0.out.below hb1 HX_0.out.lt)
  have HQ_2 := Lib.hid (HQ_0.out.bel hb1)
  have BB_3 := Lib.hid (bel_step BB_0.out hb1)
  clear HX_0 HQ_0 BB_0
  cases lg with
  | true =>
    go_wp2_with fail
    (with_reducible refine (lives25_any _).mono ?_)
    rintro e w2 ⟨rfl, hb2⟩
    have HX_4 := Lib.hid (HX_1.out.below hb2 HX_1.out.lt)
    have HQ_5 := Lib.hid (HQ_2.out.bel hb2)
    have BB_6 := Lib.hid (bel_step BB_3.out hb2)
    clear HX_1 HQ_2 BB_3
    go_wp2_with fail
    go_ret
    exact ⟨rfl, BB_6.out⟩
  | false =>
    have hask := HASK.out (by simp)
    have HCK := Lib.hid (fun W vs S hW => refCheck25_any q hask vs W S hW)
    obtain ⟨zhx0, zhx1, zhx2, zhx3⟩ := box_facts HX_1.out
    try simp only [qV] at zhx0 zhx1 zhx2 zhx3
    have HC0 := Lib.hid (HCK.out _ _ _ HQ_2.out)
    try simp only [qV] at HC0
    cases hok : okQ q with
    | false =>
      rw [hok] at HC0
      clear hok hask
      go_wp2_with fail
      clear zhx0 zhx1 zhx2 zhx3
      (with_reducible refine (HC0.out).mono ?_)
      rintro e w2 ⟨rfl, hb2⟩
      have HX_4 := Lib.hid (HX_1.out.below hb2 HX_1.out.lt)
      have HQ_5 := Lib.hid (HQ_2.out.bel hb2)
      have BB_6 := Lib.hid (bel_step BB_3.out hb2)
      clear HX_1 HQ_2 BB_3
      go_wp2_with fail
      (with_reducible refine (lives25_any _).mono ?_)
      rintro e w3 ⟨rfl, hb3⟩
      have HX_7 := Lib.hid (HX_4.out.below hb3 HX_4.out.lt)
      have HQ_8 := Lib.hid (HQ_5.out.bel hb3)
      have BB_9 := Lib.hid (bel_step BB_6.out hb3)
      clear HX_4 HQ_5 BB_6
      go_wp2_with fail
      go_ret
      exact ⟨rfl, BB_9.out⟩
    | true =>
      rw [hok] at HC0
      obtain ⟨hsh, hnd, -, hsm, haskX, -, hag⟩ := norm_facts hok hask
      have hqs : Sml q := by have := okQ_parts hok; exact (hask (by have := dep_ht q 1; omega)).2
      have haskN : Ask (notQ (notQ q)) := ask_notnot hqs hnd
      have HN := Lib.hid (fun W vs S hW => Norm25_yes q hask hok vs W S hW)
      have hnn : normQ (notQ (notQ q)) false = normQ q false := rfl
      have HNX1 := Lib.hid (fun (h : okQ (normQ q false) = true) W vs S hW => Norm25_yes (normQ q false) haskX h vs W S hW)
      have HNX0 := Lib.hid (fun (h : okQ (normQ q false) = false) W vs S hW => Norm25_no (normQ q false) haskX h vs W S hW)
      have HNN1 := Lib.hid (fun (h : okQ (notQ (notQ q)) = true) W vs S hW => Norm25_yes (notQ (notQ q)) haskN h vs W S hW)
      have HNN0 := Lib.hid (fun (h : okQ (notQ (notQ q)) = false) W vs S hW => Norm25_no (notQ (notQ q)) haskN h vs W S hW)
      have HRX := Lib.hid (fun W vs S hW => refCheck25_any (normQ q false) haskX vs W S hW)
      have HRN := Lib.hid (fun W vs S hW => refCheck25_any (notQ (notQ q)) haskN vs W S hW)
      rw [hag] at HNX1
      rw [hnn] at HNN1
      have HSM := Lib.hid hsm
      have HNOT := Lib.hid (fun W vs S hW => Not25_any q vs W S hW)
      have HNOT2 := Lib.hid (fun W vs S hW => Not25_any (notQ q) vs W S hW)
      clear hask hok hsh hnd hsm haskX hag hqs haskN hnn
      generalize hX : normQ q false = X at *
      clear hX
      generalize hN2 : notQ (notQ q) = N2 at *
      clear hN2
      generalize hN1 : notQ q = N1 at *
      clear hN1
      go_wp2_with fail
      clear zhx0 zhx1 zhx2 zhx3
      (with_reducible refine (HC0.out).mono ?_)
      rintro e w2 ⟨rfl, hb2⟩
      have HX_4 := Lib.hid (HX_1.out.below hb2 HX_1.out.lt)
      have HQ_5 := Lib.hid (HQ_2.out.bel hb2)
      have BB_6 := Lib.hid (bel_step BB_3.out hb2)
      clear HX_1 HQ_2 BB_3
      obtain ⟨zhx0, zhx1, zhx2, zhx3⟩ := box_facts HX_4.out
      try simp only [qV] at zhx0 zhx1 zhx2 zhx3
      have HC1 := Lib.hid (HN.out _ _ _ HQ_5.out)
      try simp only [qV] at HC1
      go_wp2_with fail
      clear zhx0 zhx1 zhx2 zhx3
      (with_reducible refine (HC1.out).mono ?_)
      rintro e wn1 ⟨vn, rfl, hqn, hbn1⟩
      have HZ := Lib.hid hqn
      obtain ⟨Az1, cz1, rfl, -, -, -, -, -, -⟩ := hqn.open_
      clear hqn
      have HX_7 := Lib.hid (HX_4.out.below hbn1 HX_4.out.lt)
      have HQ_8 := Lib.hid (HQ_5.out.bel hbn1)
      have BB_9 := Lib.hid (bel_step BB_6.out hbn1)
      clear HX_4 HQ_5 BB_6
      have Z1_10 := HZ
      clear HZ
      try simp only [qV]
      rw [HE1.out]
      have E_11 := bel_alloc (Below.refl wn1.heap.size wn1) (.cells (qV X.op X.n X.s Az1 X.kids.length cz1) 24)
      have HX_11 := Lib.hid (HX_7.out.below E_11 HX_7.out.lt)
      have HQ_12 := Lib.hid (HQ_8.out.bel E_11)
      have BB_13 := Lib.hid (bel_step BB_9.out E_11)
      have Z1_14 := Lib.hid (Z1_10.out.bel E_11)
      clear HX_7 HQ_8 BB_9 Z1_10
      clear E_11
      have HY_15 := Lib.hid (Blk.new wn1 24 (qV X.op X.n X.s Az1 X.kids.length cz1))
      cases hx : okQ X with
      | false =>
        rw [hx] at HRX
        obtain ⟨zhy0, zhy1, zhy2, zhy3⟩ := box_facts HY_15.out
        try simp only [qV] at zhy0 zhy1 zhy2 zhy3
        have HC2 := Lib.hid (HNX0.out hx _ _ _ Z1_14.out)
        clear hx
        try simp only [qV] at HC2
        go_wp2_with fail
        clear zhy0 zhy1 zhy2 zhy3
        (with_reducible refine (HC2.out).mono ?_)
        rintro e wn2 ⟨vn, rfl, hqn, hbn2⟩
        have HZ := Lib.hid hqn
        obtain ⟨Az2, cz2, rfl, -, -, -, -, -, -⟩ := hqn.open_
        clear hqn
        have HX_16 := Lib.hid (HX_11.out.below hbn2 HX_11.out.lt)
        have HQ_17 := Lib.hid (HQ_12.out.bel hbn2)
        have BB_18 := Lib.hid (bel_step BB_13.out hbn2)
        have Z1_19 := Lib.hid (Z1_14.out.bel hbn2)
        have HY_20 := Lib.hid (HY_15.out.below hbn2 HY_15.out.lt)
        clear HX_11 HQ_12 BB_13 Z1_14 HY_15
        have Z2_21 := HZ
        clear HZ
        try simp only [qV]
        rw [HE2.out]
        try simp only [z_op, z_n, z_s, z_kids, List.length_nil]
        have E_22 := bel_alloc (Below.refl wn2.heap.size wn2) (.cells (#[.int .i64 0, .int .i64 0, .string ⟨#[]⟩, .slice Az2 0 cz2]) 24)
        have HX_22 := Lib.hid (HX_16.out.below E_22 HX_16.out.lt)
        have HQ_23 := Lib.hid (HQ_17.out.bel E_22)
        have BB_24 := Lib.hid (bel_step BB_18.out E_22)
        have Z1_25 := Lib.hid (Z1_19.out.bel E_22)
        have HY_26 := Lib.hid (HY_20.out.below E_22 HY_20.out.lt)
        have Z2_27 := Lib.hid (Z2_21.out.bel E_22)
        clear HX_16 HQ_17 BB_18 Z1_19 HY_20 Z2_21
        clear E_22
        have HZ_28 := Lib.hid (Blk.new wn2 24 (#[.int .i64 0, .int .i64 0, .string ⟨#[]⟩, .slice Az2 0 cz2]))
        obtain ⟨zhx0, zhx1, zhx2, zhx3⟩ := box_facts HX_22.out
        try simp only [qV] at zhx0 zhx1 zhx2 zhx3
        have HC3 := Lib.hid (HNOT.out _ _ _ HQ_23.out)
        try simp only [qV] at HC3
        go_wp2_with fail
        clear zhx0 zhx1 zhx2 zhx3
        (with_reducible refine (HC3.out).mono ?_)
        rintro e wt3 ⟨vt3, rfl, hqt, hbt3⟩
        have HT := Lib.hid hqt
        obtain ⟨At3, ct3, rfl, -, -, -, -, -, -⟩ := hqt.open_
        clear hqt
        have HX_29 := Lib.hid (HX_22.out.below hbt3 HX_22.out.lt)
        have HQ_30 := Lib.hid (HQ_23.out.bel hbt3)
        have BB_31 := Lib.hid (bel_step BB_24.out hbt3)
        have Z1_32 := Lib.hid (Z1_25.out.bel hbt3)
        have HY_33 := Lib.hid (HY_26.out.below hbt3 HY_26.out.lt)
        have Z2_34 := Lib.hid (Z2_27.out.bel hbt3)
        have HZ_35 := Lib.hid (HZ_28.out.below hbt3 HZ_28.out.lt)
        clear HX_22 HQ_23 BB_24 Z1_25 HY_26 Z2_27 HZ_28
        have T3_36 := HT
        clear HT
        try simp only [qV]
        have HC4 := Lib.hid (HNOT2.out _ _ _ T3_36.out)
        try simp only [qV] at HC4
        go_wp2_with fail
        (with_reducible refine (HC4.out).mono ?_)
        rintro e wt4 ⟨vt4, rfl, hqt, hbt4⟩
        have HT := Lib.hid hqt
        obtain ⟨At4, ct4, rfl, -, -, -, -, -, -⟩ := hqt.open_
        clear hqt
        have HX_37 := Lib.hid (HX_29.out.below hbt4 HX_29.out.lt)
        have HQ_38 := Lib.hid (HQ_30.out.bel hbt4)
        have BB_39 := Lib.hid (bel_step BB_31.out hbt4)
        have Z1_40 := Lib.hid (Z1_32.out.bel hbt4)
        have HY_41 := Lib.hid (HY_33.out.below hbt4 HY_33.out.lt)
        have Z2_42 := Lib.hid (Z2_34.out.bel hbt4)
        have HZ_43 := Lib.hid (HZ_35.out.below hbt4 HZ_35.out.lt)
        have T3_44 := Lib.hid (T3_36.out.bel hbt4)
        clear HX_29 HQ_30 BB_31 Z1_32 HY_33 Z2_34 HZ_35 T3_36
        have T4_45 := HT
        clear HT
        try simp only [qV]
        cases hn : okQ N2 with
        | false =>
          rw [hn] at HRN
          have HC5 := Lib.hid (HNN0.out hn _ _ _ T4_45.out)
          clear hn
          try simp only [qV] at HC5
          go_wp2_with fail
          (with_reducible refine (HC5.out).mono ?_)
          rintro e wn5 ⟨vn, rfl, hqn, hbn5⟩
          have HZ := Lib.hid hqn
          obtain ⟨Az5, cz5, rfl, -, -, -, -, -, -⟩ := hqn.open_
          clear hqn
          have HX_46 := Lib.hid (HX_37.out.below hbn5 HX_37.out.lt)
          have HQ_47 := Lib.hid (HQ_38.out.bel hbn5)
          have BB_48 := Lib.hid (bel_step BB_39.out hbn5)
          have Z1_49 := Lib.hid (Z1_40.out.bel hbn5)
          have HY_50 := Lib.hid (HY_41.out.below hbn5 HY_41.out.lt)
          have Z2_51 := Lib.hid (Z2_42.out.bel hbn5)
          have HZ_52 := Lib.hid (HZ_43.out.below hbn5 HZ_43.out.lt)
          have T3_53 := Lib.hid (T3_44.out.bel hbn5)
          have T4_54 := Lib.hid (T4_45.out.bel hbn5)
          clear HX_37 HQ_38 BB_39 Z1_40 HY_41 Z2_42 HZ_43 T3_44 T4_45
          have Z5_55 := HZ
          clear HZ
          try simp only [qV]
          rw [HE2.out]
          try simp only [z_op, z_n, z_s, z_kids, List.length_nil]
          have E_56 := bel_alloc (Below.refl wn5.heap.size wn5) (.cells (#[.int .i64 0, .int .i64 0, .string ⟨#[]⟩, .slice Az5 0 cz5]) 24)
          have HX_56 := Lib.hid (HX_46.out.below E_56 HX_46.out.lt)
          have HQ_57 := Lib.hid (HQ_47.out.bel E_56)
          have BB_58 := Lib.hid (bel_step BB_48.out E_56)
          have Z1_59 := Lib.hid (Z1_49.out.bel E_56)
          have HY_60 := Lib.hid (HY_50.out.below E_56 HY_50.out.lt)
          have Z2_61 := Lib.hid (Z2_51.out.bel E_56)
          have HZ_62 := Lib.hid (HZ_52.out.below E_56 HZ_52.out.lt)
          have T3_63 := Lib.hid (T3_53.out.bel E_56)
          have T4_64 := Lib.hid (T4_54.out.bel E_56)
          have Z5_65 := Lib.hid (Z5_55.out.bel E_56)
          clear HX_46 HQ_47 BB_48 Z1_49 HY_50 Z2_51 HZ_52 T3_53 T4_54 Z5_55
          clear E_56
          have HU_66 := Lib.hid (Blk.new wn5 24 (#[.int .i64 0, .int .i64 0, .string ⟨#[]⟩, .slice Az5 0 cz5]))
          go_wp2_with fail
          (with_reducible refine (lives25_any _).mono ?_)
          rintro e w3 ⟨rfl, hb3⟩
          have HX_67 := Lib.hid (HX_56.out.below hb3 HX_56.out.lt)
          have HQ_68 := Lib.hid (HQ_57.out.bel hb3)
          have BB_69 := Lib.hid (bel_step BB_58.out hb3)
          have Z1_70 := Lib.hid (Z1_59.out.bel hb3)
          have HY_71 := Lib.hid (HY_60.out.below hb3 HY_60.out.lt)
          have Z2_72 := Lib.hid (Z2_61.out.bel hb3)
          have HZ_73 := Lib.hid (HZ_62.out.below hb3 HZ_62.out.lt)
          have T3_74 := Lib.hid (T3_63.out.bel hb3)
          have T4_75 := Lib.hid (T4_64.out.bel hb3)
          have Z5_76 := Lib.hid (Z5_65.out.bel hb3)
          have HU_77 := Lib.hid (HU_66.out.below hb3 HU_66.out.lt)
          clear HX_56 HQ_57 BB_58 Z1_59 HY_60 Z2_61 HZ_62 T3_63 T4_64 Z5_65 HU_66
          obtain ⟨zhy0, zhy1, zhy2, zhy3⟩ := box_facts HY_71.out
          try simp only [qV] at zhy0 zhy1 zhy2 zhy3
          have HC6 := Lib.hid (HRX.out _ _ _ Z1_70.out)
          try simp only [qV] at HC6
          go_wp2_with fail
          clear zhy0 zhy1 zhy2 zhy3
          (with_reducible refine (HC6.out).mono ?_)
          rintro e w4 ⟨rfl, hb4⟩
          have HX_78 := Lib.hid (HX_67.out.below hb4 HX_67.out.lt)
          have HQ_79 := Lib.hid (HQ_68.out.bel hb4)
          have BB_80 := Lib.hid (bel_step BB_69.out hb4)
          have Z1_81 := Lib.hid (Z1_70.out.bel hb4)
          have HY_82 := Lib.hid (HY_71.out.below hb4 HY_71.out.lt)
          have Z2_83 := Lib.hid (Z2_72.out.bel hb4)
          have HZ_84 := Lib.hid (HZ_73.out.below hb4 HZ_73.out.lt)
          have T3_85 := Lib.hid (T3_74.out.bel hb4)
          have T4_86 := Lib.hid (T4_75.out.bel hb4)
          have Z5_87 := Lib.hid (Z5_76.out.bel hb4)
          have HU_88 := Lib.hid (HU_77.out.below hb4 HU_77.out.lt)
          clear HX_67 HQ_68 BB_69 Z1_70 HY_71 Z2_72 HZ_73 T3_74 T4_75 Z5_76 HU_77
          obtain ⟨zhx0, zhx1, zhx2, zhx3⟩ := box_facts HX_78.out
          try simp only [qV] at zhx0 zhx1 zhx2 zhx3
          have HC7 := Lib.hid (HNOT.out _ _ _ HQ_79.out)
          try simp only [qV] at HC7
          go_wp2_with fail
          clear zhx0 zhx1 zhx2 zhx3
          (with_reducible refine (HC7.out).mono ?_)
          rintro e wt6 ⟨vt6, rfl, hqt, hbt6⟩
          have HT := Lib.hid hqt
          obtain ⟨At6, ct6, rfl, -, -, -, -, -, -⟩ := hqt.open_
          clear hqt
          have HX_89 := Lib.hid (HX_78.out.below hbt6 HX_78.out.lt)
          have HQ_90 := Lib.hid (HQ_79.out.bel hbt6)
          have BB_91 := Lib.hid (bel_step BB_80.out hbt6)
          have Z1_92 := Lib.hid (Z1_81.out.bel hbt6)
          have HY_93 := Lib.hid (HY_82.out.below hbt6 HY_82.out.lt)
          have Z2_94 := Lib.hid (Z2_83.out.bel hbt6)
          have HZ_95 := Lib.hid (HZ_84.out.below hbt6 HZ_84.out.lt)
          have T3_96 := Lib.hid (T3_85.out.bel hbt6)
          have T4_97 := Lib.hid (T4_86.out.bel hbt6)
          have Z5_98 := Lib.hid (Z5_87.out.bel hbt6)
          have HU_99 := Lib.hid (HU_88.out.below hbt6 HU_88.out.lt)
          clear HX_78 HQ_79 BB_80 Z1_81 HY_82 Z2_83 HZ_84 T3_85 T4_86 Z5_87 HU_88
          have T6_100 := HT
          clear HT
          try simp only [qV]
          have HC8 := Lib.hid (HNOT2.out _ _ _ T6_100.out)
          try simp only [qV] at HC8
          go_wp2_with fail
          (with_reducible refine (HC8.out).mono ?_)
          rintro e wt7 ⟨vt7, rfl, hqt, hbt7⟩
          have HT := Lib.hid hqt
          obtain ⟨At7, ct7, rfl, -, -, -, -, -, -⟩ := hqt.open_
          clear hqt
          have HX_101 := Lib.hid (HX_89.out.below hbt7 HX_89.out.lt)
          have HQ_102 := Lib.hid (HQ_90.out.bel hbt7)
          have BB_103 := Lib.hid (bel_step BB_91.out hbt7)
          have Z1_104 := Lib.hid (Z1_92.out.bel hbt7)
          have HY_105 := Lib.hid (HY_93.out.below hbt7 HY_93.out.lt)
          have Z2_106 := Lib.hid (Z2_94.out.bel hbt7)
          have HZ_107 := Lib.hid (HZ_95.out.below hbt7 HZ_95.out.lt)
          have T3_108 := Lib.hid (T3_96.out.bel hbt7)
          have T4_109 := Lib.hid (T4_97.out.bel hbt7)
          have Z5_110 := Lib.hid (Z5_98.out.bel hbt7)
          have HU_111 := Lib.hid (HU_99.out.below hbt7 HU_99.out.lt)
          have T6_112 := Lib.hid (T6_100.out.bel hbt7)
          clear HX_89 HQ_90 BB_91 Z1_92 HY_93 Z2_94 HZ_95 T3_96 T4_97 Z5_98 HU_99 T6_100
          have T7_113 := HT
          clear HT
          try simp only [qV]
          have HC9 := Lib.hid (HRN.out _ _ _ T7_113.out)
          try simp only [qV] at HC9
          go_wp2_with fail
          (with_reducible refine (HC9.out).mono ?_)
          rintro e w5 ⟨rfl, hb5⟩
          have HX_114 := Lib.hid (HX_101.out.below hb5 HX_101.out.lt)
          have HQ_115 := Lib.hid (HQ_102.out.bel hb5)
          have BB_116 := Lib.hid (bel_step BB_103.out hb5)
          have Z1_117 := Lib.hid (Z1_104.out.bel hb5)
          have HY_118 := Lib.hid (HY_105.out.below hb5 HY_105.out.lt)
          have Z2_119 := Lib.hid (Z2_106.out.bel hb5)
          have HZ_120 := Lib.hid (HZ_107.out.below hb5 HZ_107.out.lt)
          have T3_121 := Lib.hid (T3_108.out.bel hb5)
          have T4_122 := Lib.hid (T4_109.out.bel hb5)
          have Z5_123 := Lib.hid (Z5_110.out.bel hb5)
          have HU_124 := Lib.hid (HU_111.out.below hb5 HU_111.out.lt)
          have T6_125 := Lib.hid (T6_112.out.bel hb5)
          have T7_126 := Lib.hid (T7_113.out.bel hb5)
          clear HX_101 HQ_102 BB_103 Z1_104 HY_105 Z2_106 HZ_107 T3_108 T4_109 Z5_110 HU_111 T6_112 T7_113
          go_wp2_with fail
          go_ret
          exact ⟨rfl, BB_116.out⟩
        | true =>
          rw [hn] at HRN
          have HC5 := Lib.hid (HNN1.out hn _ _ _ T4_45.out)
          clear hn
          try simp only [qV] at HC5
          go_wp2_with fail
          (with_reducible refine (HC5.out).mono ?_)
          rintro e wn5 ⟨vn, rfl, hqn, hbn5⟩
          have HZ := Lib.hid hqn
          obtain ⟨Az5, cz5, rfl, -, -, -, -, -, -⟩ := hqn.open_
          clear hqn
          have HX_46 := Lib.hid (HX_37.out.below hbn5 HX_37.out.lt)
          have HQ_47 := Lib.hid (HQ_38.out.bel hbn5)
          have BB_48 := Lib.hid (bel_step BB_39.out hbn5)
          have Z1_49 := Lib.hid (Z1_40.out.bel hbn5)
          have HY_50 := Lib.hid (HY_41.out.below hbn5 HY_41.out.lt)
          have Z2_51 := Lib.hid (Z2_42.out.bel hbn5)
          have HZ_52 := Lib.hid (HZ_43.out.below hbn5 HZ_43.out.lt)
          have T3_53 := Lib.hid (T3_44.out.bel hbn5)
          have T4_54 := Lib.hid (T4_45.out.bel hbn5)
          clear HX_37 HQ_38 BB_39 Z1_40 HY_41 Z2_42 HZ_43 T3_44 T4_45
          have Z5_55 := HZ
          clear HZ
          try simp only [qV]
          rw [HE1.out]
          have E_56 := bel_alloc (Below.refl wn5.heap.size wn5) (.cells (qV X.op X.n X.s Az5 X.kids.length cz5) 24)
          have HX_56 := Lib.hid (HX_46.out.below E_56 HX_46.out.lt)
          have HQ_57 := Lib.hid (HQ_47.out.bel E_56)
          have BB_58 := Lib.hid (bel_step BB_48.out E_56)
          have Z1_59 := Lib.hid (Z1_49.out.bel E_56)
          have HY_60 := Lib.hid (HY_50.out.below E_56 HY_50.out.lt)
          have Z2_61 := Lib.hid (Z2_51.out.bel E_56)
          have HZ_62 := Lib.hid (HZ_52.out.below E_56 HZ_52.out.lt)
          have T3_63 := Lib.hid (T3_53.out.bel E_56)
          have T4_64 := Lib.hid (T4_54.out.bel E_56)
          have Z5_65 := Lib.hid (Z5_55.out.bel E_56)
          clear HX_46 HQ_47 BB_48 Z1_49 HY_50 Z2_51 HZ_52 T3_53 T4_54 Z5_55
          clear E_56
          have HU_66 := Lib.hid (Blk.new wn5 24 (qV X.op X.n X.s Az5 X.kids.length cz5))
          go_wp2_with fail
          (with_reducible refine (lives25_any _).mono ?_)
          rintro e w3 ⟨rfl, hb3⟩
          have HX_67 := Lib.hid (HX_56.out.below hb3 HX_56.out.lt)
          have HQ_68 := Lib.hid (HQ_57.out.bel hb3)
          have BB_69 := Lib.hid (bel_step BB_58.out hb3)
          have Z1_70 := Lib.hid (Z1_59.out.bel hb3)
          have HY_71 := Lib.hid (HY_60.out.below hb3 HY_60.out.lt)
          have Z2_72 := Lib.hid (Z2_61.out.bel hb3)
          have HZ_73 := Lib.hid (HZ_62.out.below hb3 HZ_62.out.lt)
          have T3_74 := Lib.hid (T3_63.out.bel hb3)
          have T4_75 := Lib.hid (T4_64.out.bel hb3)
          have Z5_76 := Lib.hid (Z5_65.out.bel hb3)
          have HU_77 := Lib.hid (HU_66.out.below hb3 HU_66.out.lt)
          clear HX_56 HQ_57 BB_58 Z1_59 HY_60 Z2_61 HZ_62 T3_63 T4_64 Z5_65 HU_66
          obtain ⟨zhy0, zhy1, zhy2, zhy3⟩ := box_facts HY_71.out
          try simp only [qV] at zhy0 zhy1 zhy2 zhy3
          have HC6 := Lib.hid (HRX.out _ _ _ Z1_70.out)
          try simp only [qV] at HC6
          go_wp2_with fail
          clear zhy0 zhy1 zhy2 zhy3
          (with_reducible refine (HC6.out).mono ?_)
          rintro e w4 ⟨rfl, hb4⟩
          have HX_78 := Lib.hid (HX_67.out.below hb4 HX_67.out.lt)
          have HQ_79 := Lib.hid (HQ_68.out.bel hb4)
          have BB_80 := Lib.hid (bel_step BB_69.out hb4)
          have Z1_81 := Lib.hid (Z1_70.out.bel hb4)
          have HY_82 := Lib.hid (HY_71.out.below hb4 HY_71.out.lt)
          have Z2_83 := Lib.hid (Z2_72.out.bel hb4)
          have HZ_84 := Lib.hid (HZ_73.out.below hb4 HZ_73.out.lt)
          have T3_85 := Lib.hid (T3_74.out.bel hb4)
          have T4_86 := Lib.hid (T4_75.out.bel hb4)
          have Z5_87 := Lib.hid (Z5_76.out.bel hb4)
          have HU_88 := Lib.hid (HU_77.out.below hb4 HU_77.out.lt)
          clear HX_67 HQ_68 BB_69 Z1_70 HY_71 Z2_72 HZ_73 T3_74 T4_75 Z5_76 HU_77
          obtain ⟨zhy0, zhy1, zhy2, zhy3⟩ := box_facts HY_82.out
          obtain ⟨zhu0, zhu1, zhu2, zhu3⟩ := box_facts HU_88.out
          try simp only [qV] at zhy0 zhy1 zhy2 zhy3 zhu0 zhu1 zhu2 zhu3
          have HC7 := Lib.hid (refSame_any25 X X _ _ _ _ _ Z1_81.out Z5_87.out)
          rw [HSM.out] at HC7
          try simp only [qV] at HC7
          go_wp2_with fail
          clear zhy0 zhy1 zhy2 zhy3 zhu0 zhu1 zhu2 zhu3
          (with_reducible refine (HC7.out).mono ?_)
          rintro e w5 ⟨rfl, hb5⟩
          have HX_89 := Lib.hid (HX_78.out.below hb5 HX_78.out.lt)
          have HQ_90 := Lib.hid (HQ_79.out.bel hb5)
          have BB_91 := Lib.hid (bel_step BB_80.out hb5)
          have Z1_92 := Lib.hid (Z1_81.out.bel hb5)
          have HY_93 := Lib.hid (HY_82.out.below hb5 HY_82.out.lt)
          have Z2_94 := Lib.hid (Z2_83.out.bel hb5)
          have HZ_95 := Lib.hid (HZ_84.out.below hb5 HZ_84.out.lt)
          have T3_96 := Lib.hid (T3_85.out.bel hb5)
          have T4_97 := Lib.hid (T4_86.out.bel hb5)
          have Z5_98 := Lib.hid (Z5_87.out.bel hb5)
          have HU_99 := Lib.hid (HU_88.out.below hb5 HU_88.out.lt)
          clear HX_78 HQ_79 BB_80 Z1_81 HY_82 Z2_83 HZ_84 T3_85 T4_86 Z5_87 HU_88
          go_wp2_with fail
          go_ret
          exact ⟨rfl, BB_91.out⟩
      | true =>
        rw [hx] at HRX
        obtain ⟨zhy0, zhy1, zhy2, zhy3⟩ := box_facts HY_15.out
        try simp only [qV] at zhy0 zhy1 zhy2 zhy3
        have HC2 := Lib.hid (HNX1.out hx _ _ _ Z1_14.out)
        clear hx
        try simp only [qV] at HC2
        go_wp2_with fail
        clear zhy0 zhy1 zhy2 zhy3
        (with_reducible refine (HC2.out).mono ?_)
        rintro e wn2 ⟨vn, rfl, hqn, hbn2⟩
        have HZ := Lib.hid hqn
        obtain ⟨Az2, cz2, rfl, -, -, -, -, -, -⟩ := hqn.open_
        clear hqn
        have HX_16 := Lib.hid (HX_11.out.below hbn2 HX_11.out.lt)
        have HQ_17 := Lib.hid (HQ_12.out.bel hbn2)
        have BB_18 := Lib.hid (bel_step BB_13.out hbn2)
        have Z1_19 := Lib.hid (Z1_14.out.bel hbn2)
        have HY_20 := Lib.hid (HY_15.out.below hbn2 HY_15.out.lt)
        clear HX_11 HQ_12 BB_13 Z1_14 HY_15
        have Z2_21 := HZ
        clear HZ
        try simp only [qV]
        rw [HE1.out]
        have E_22 := bel_alloc (Below.refl wn2.heap.size wn2) (.cells (qV X.op X.n X.s Az2 X.kids.length cz2) 24)
        have HX_22 := Lib.hid (HX_16.out.below E_22 HX_16.out.lt)
        have HQ_23 := Lib.hid (HQ_17.out.bel E_22)
        have BB_24 := Lib.hid (bel_step BB_18.out E_22)
        have Z1_25 := Lib.hid (Z1_19.out.bel E_22)
        have HY_26 := Lib.hid (HY_20.out.below E_22 HY_20.out.lt)
        have Z2_27 := Lib.hid (Z2_21.out.bel E_22)
        clear HX_16 HQ_17 BB_18 Z1_19 HY_20 Z2_21
        clear E_22
        have HZ_28 := Lib.hid (Blk.new wn2 24 (qV X.op X.n X.s Az2 X.kids.length cz2))
        obtain ⟨zhx0, zhx1, zhx2, zhx3⟩ := box_facts HX_22.out
        try simp only [qV] at zhx0 zhx1 zhx2 zhx3
        have HC3 := Lib.hid (HNOT.out _ _ _ HQ_23.out)
        try simp only [qV] at HC3
        go_wp2_with fail
        clear zhx0 zhx1 zhx2 zhx3
        (with_reducible refine (HC3.out).mono ?_)
        rintro e wt3 ⟨vt3, rfl, hqt, hbt3⟩
        have HT := Lib.hid hqt
        obtain ⟨At3, ct3, rfl, -, -, -, -, -, -⟩ := hqt.open_
        clear hqt
        have HX_29 := Lib.hid (HX_22.out.below hbt3 HX_22.out.lt)
        have HQ_30 := Lib.hid (HQ_23.out.bel hbt3)
        have BB_31 := Lib.hid (bel_step BB_24.out hbt3)
        have Z1_32 := Lib.hid (Z1_25.out.bel hbt3)
        have HY_33 := Lib.hid (HY_26.out.below hbt3 HY_26.out.lt)
        have Z2_34 := Lib.hid (Z2_27.out.bel hbt3)
        have HZ_35 := Lib.hid (HZ_28.out.below hbt3 HZ_28.out.lt)
        clear HX_22 HQ_23 BB_24 Z1_25 HY_26 Z2_27 HZ_28
        have T3_36 := HT
        clear HT
        try simp only [qV]
        have HC4 := Lib.hid (HNOT2.out _ _ _ T3_36.out)
        try simp only [qV] at HC4
        go_wp2_with fail
        (with_reducible refine (HC4.out).mono ?_)
        rintro e wt4 ⟨vt4, rfl, hqt, hbt4⟩
        have HT := Lib.hid hqt
        obtain ⟨At4, ct4, rfl, -, -, -, -, -, -⟩ := hqt.open_
        clear hqt
        have HX_37 := Lib.hid (HX_29.out.below hbt4 HX_29.out.lt)
        have HQ_38 := Lib.hid (HQ_30.out.bel hbt4)
        have BB_39 := Lib.hid (bel_step BB_31.out hbt4)
        have Z1_40 := Lib.hid (Z1_32.out.bel hbt4)
        have HY_41 := Lib.hid (HY_33.out.below hbt4 HY_33.out.lt)
        have Z2_42 := Lib.hid (Z2_34.out.bel hbt4)
        have HZ_43 := Lib.hid (HZ_35.out.below hbt4 HZ_35.out.lt)
        have T3_44 := Lib.hid (T3_36.out.bel hbt4)
        clear HX_29 HQ_30 BB_31 Z1_32 HY_33 Z2_34 HZ_35 T3_36
        have T4_45 := HT
        clear HT
        try simp only [qV]
        cases hn : okQ N2 with
        | false =>
          rw [hn] at HRN
          have HC5 := Lib.hid (HNN0.out hn _ _ _ T4_45.out)
          clear hn
          try simp only [qV] at HC5
          go_wp2_with fail
          (with_reducible refine (HC5.out).mono ?_)
          rintro e wn5 ⟨vn, rfl, hqn, hbn5⟩
          have HZ := Lib.hid hqn
          obtain ⟨Az5, cz5, rfl, -, -, -, -, -, -⟩ := hqn.open_
          clear hqn
          have HX_46 := Lib.hid (HX_37.out.below hbn5 HX_37.out.lt)
          have HQ_47 := Lib.hid (HQ_38.out.bel hbn5)
          have BB_48 := Lib.hid (bel_step BB_39.out hbn5)
          have Z1_49 := Lib.hid (Z1_40.out.bel hbn5)
          have HY_50 := Lib.hid (HY_41.out.below hbn5 HY_41.out.lt)
          have Z2_51 := Lib.hid (Z2_42.out.bel hbn5)
          have HZ_52 := Lib.hid (HZ_43.out.below hbn5 HZ_43.out.lt)
          have T3_53 := Lib.hid (T3_44.out.bel hbn5)
          have T4_54 := Lib.hid (T4_45.out.bel hbn5)
          clear HX_37 HQ_38 BB_39 Z1_40 HY_41 Z2_42 HZ_43 T3_44 T4_45
          have Z5_55 := HZ
          clear HZ
          try simp only [qV]
          rw [HE2.out]
          try simp only [z_op, z_n, z_s, z_kids, List.length_nil]
          have E_56 := bel_alloc (Below.refl wn5.heap.size wn5) (.cells (#[.int .i64 0, .int .i64 0, .string ⟨#[]⟩, .slice Az5 0 cz5]) 24)
          have HX_56 := Lib.hid (HX_46.out.below E_56 HX_46.out.lt)
          have HQ_57 := Lib.hid (HQ_47.out.bel E_56)
          have BB_58 := Lib.hid (bel_step BB_48.out E_56)
          have Z1_59 := Lib.hid (Z1_49.out.bel E_56)
          have HY_60 := Lib.hid (HY_50.out.below E_56 HY_50.out.lt)
          have Z2_61 := Lib.hid (Z2_51.out.bel E_56)
          have HZ_62 := Lib.hid (HZ_52.out.below E_56 HZ_52.out.lt)
          have T3_63 := Lib.hid (T3_53.out.bel E_56)
          have T4_64 := Lib.hid (T4_54.out.bel E_56)
          have Z5_65 := Lib.hid (Z5_55.out.bel E_56)
          clear HX_46 HQ_47 BB_48 Z1_49 HY_50 Z2_51 HZ_52 T3_53 T4_54 Z5_55
          clear E_56
          have HU_66 := Lib.hid (Blk.new wn5 24 (#[.int .i64 0, .int .i64 0, .string ⟨#[]⟩, .slice Az5 0 cz5]))
          go_wp2_with fail
          (with_reducible refine (lives25_any _).mono ?_)
          rintro e w3 ⟨rfl, hb3⟩
          have HX_67 := Lib.hid (HX_56.out.below hb3 HX_56.out.lt)
          have HQ_68 := Lib.hid (HQ_57.out.bel hb3)
          have BB_69 := Lib.hid (bel_step BB_58.out hb3)
          have Z1_70 := Lib.hid (Z1_59.out.bel hb3)
          have HY_71 := Lib.hid (HY_60.out.below hb3 HY_60.out.lt)
          have Z2_72 := Lib.hid (Z2_61.out.bel hb3)
          have HZ_73 := Lib.hid (HZ_62.out.below hb3 HZ_62.out.lt)
          have T3_74 := Lib.hid (T3_63.out.bel hb3)
          have T4_75 := Lib.hid (T4_64.out.bel hb3)
          have Z5_76 := Lib.hid (Z5_65.out.bel hb3)
          have HU_77 := Lib.hid (HU_66.out.below hb3 HU_66.out.lt)
          clear HX_56 HQ_57 BB_58 Z1_59 HY_60 Z2_61 HZ_62 T3_63 T4_64 Z5_65 HU_66
          obtain ⟨zhy0, zhy1, zhy2, zhy3⟩ := box_facts HY_71.out
          obtain ⟨zhz0, zhz1, zhz2, zhz3⟩ := box_facts HZ_73.out
          try simp only [qV] at zhy0 zhy1 zhy2 zhy3 zhz0 zhz1 zhz2 zhz3
          have HC6 := Lib.hid (refSame_any25 X X _ _ _ _ _ Z1_70.out Z2_72.out)
          rw [HSM.out] at HC6
          try simp only [qV] at HC6
          go_wp2_with fail
          clear zhy0 zhy1 zhy2 zhy3 zhz0 zhz1 zhz2 zhz3
          (with_reducible refine (HC6.out).mono ?_)
          rintro e w4 ⟨rfl, hb4⟩
          have HX_78 := Lib.hid (HX_67.out.below hb4 HX_67.out.lt)
          have HQ_79 := Lib.hid (HQ_68.out.bel hb4)
          have BB_80 := Lib.hid (bel_step BB_69.out hb4)
          have Z1_81 := Lib.hid (Z1_70.out.bel hb4)
          have HY_82 := Lib.hid (HY_71.out.below hb4 HY_71.out.lt)
          have Z2_83 := Lib.hid (Z2_72.out.bel hb4)
          have HZ_84 := Lib.hid (HZ_73.out.below hb4 HZ_73.out.lt)
          have T3_85 := Lib.hid (T3_74.out.bel hb4)
          have T4_86 := Lib.hid (T4_75.out.bel hb4)
          have Z5_87 := Lib.hid (Z5_76.out.bel hb4)
          have HU_88 := Lib.hid (HU_77.out.below hb4 HU_77.out.lt)
          clear HX_67 HQ_68 BB_69 Z1_70 HY_71 Z2_72 HZ_73 T3_74 T4_75 Z5_76 HU_77
          obtain ⟨zhx0, zhx1, zhx2, zhx3⟩ := box_facts HX_78.out
          try simp only [qV] at zhx0 zhx1 zhx2 zhx3
          have HC7 := Lib.hid (HNOT.out _ _ _ HQ_79.out)
          try simp only [qV] at HC7
          go_wp2_with fail
          clear zhx0 zhx1 zhx2 zhx3
          (with_reducible refine (HC7.out).mono ?_)
          rintro e wt6 ⟨vt6, rfl, hqt, hbt6⟩
          have HT := Lib.hid hqt
          obtain ⟨At6, ct6, rfl, -, -, -, -, -, -⟩ := hqt.open_
          clear hqt
          have HX_89 := Lib.hid (HX_78.out.below hbt6 HX_78.out.lt)
          have HQ_90 := Lib.hid (HQ_79.out.bel hbt6)
          have BB_91 := Lib.hid (bel_step BB_80.out hbt6)
          have Z1_92 := Lib.hid (Z1_81.out.bel hbt6)
          have HY_93 := Lib.hid (HY_82.out.below hbt6 HY_82.out.lt)
          have Z2_94 := Lib.hid (Z2_83.out.bel hbt6)
          have HZ_95 := Lib.hid (HZ_84.out.below hbt6 HZ_84.out.lt)
          have T3_96 := Lib.hid (T3_85.out.bel hbt6)
          have T4_97 := Lib.hid (T4_86.out.bel hbt6)
          have Z5_98 := Lib.hid (Z5_87.out.bel hbt6)
          have HU_99 := Lib.hid (HU_88.out.below hbt6 HU_88.out.lt)
          clear HX_78 HQ_79 BB_80 Z1_81 HY_82 Z2_83 HZ_84 T3_85 T4_86 Z5_87 HU_88
          have T6_100 := HT
          clear HT
          try simp only [qV]
          have HC8 := Lib.hid (HNOT2.out _ _ _ T6_100.out)
          try simp only [qV] at HC8
          go_wp2_with fail
          (with_reducible refine (HC8.out).mono ?_)
          rintro e wt7 ⟨vt7, rfl, hqt, hbt7⟩
          have HT := Lib.hid hqt
          obtain ⟨At7, ct7, rfl, -, -, -, -, -, -⟩ := hqt.open_
          clear hqt
          have HX_101 := Lib.hid (HX_89.out.below hbt7 HX_89.out.lt)
          have HQ_102 := Lib.hid (HQ_90.out.bel hbt7)
          have BB_103 := Lib.hid (bel_step BB_91.out hbt7)
          have Z1_104 := Lib.hid (Z1_92.out.bel hbt7)
          have HY_105 := Lib.hid (HY_93.out.below hbt7 HY_93.out.lt)
          have Z2_106 := Lib.hid (Z2_94.out.bel hbt7)
          have HZ_107 := Lib.hid (HZ_95.out.below hbt7 HZ_95.out.lt)
          have T3_108 := Lib.hid (T3_96.out.bel hbt7)
          have T4_109 := Lib.hid (T4_97.out.bel hbt7)
          have Z5_110 := Lib.hid (Z5_98.out.bel hbt7)
          have HU_111 := Lib.hid (HU_99.out.below hbt7 HU_99.out.lt)
          have T6_112 := Lib.hid (T6_100.out.bel hbt7)
          clear HX_89 HQ_90 BB_91 Z1_92 HY_93 Z2_94 HZ_95 T3_96 T4_97 Z5_98 HU_99 T6_100
          have T7_113 := HT
          clear HT
          try simp only [qV]
          have HC9 := Lib.hid (HRN.out _ _ _ T7_113.out)
          try simp only [qV] at HC9
          go_wp2_with fail
          (with_reducible refine (HC9.out).mono ?_)
          rintro e w5 ⟨rfl, hb5⟩
          have HX_114 := Lib.hid (HX_101.out.below hb5 HX_101.out.lt)
          have HQ_115 := Lib.hid (HQ_102.out.bel hb5)
          have BB_116 := Lib.hid (bel_step BB_103.out hb5)
          have Z1_117 := Lib.hid (Z1_104.out.bel hb5)
          have HY_118 := Lib.hid (HY_105.out.below hb5 HY_105.out.lt)
          have Z2_119 := Lib.hid (Z2_106.out.bel hb5)
          have HZ_120 := Lib.hid (HZ_107.out.below hb5 HZ_107.out.lt)
          have T3_121 := Lib.hid (T3_108.out.bel hb5)
          have T4_122 := Lib.hid (T4_109.out.bel hb5)
          have Z5_123 := Lib.hid (Z5_110.out.bel hb5)
          have HU_124 := Lib.hid (HU_111.out.below hb5 HU_111.out.lt)
          have T6_125 := Lib.hid (T6_112.out.bel hb5)
          have T7_126 := Lib.hid (T7_113.out.bel hb5)
          clear HX_101 HQ_102 BB_103 Z1_104 HY_105 Z2_106 HZ_107 T3_108 T4_109 Z5_110 HU_111 T6_112 T7_113
          go_wp2_with fail
          go_ret
          exact ⟨rfl, BB_116.out⟩
        | true =>
          rw [hn] at HRN
          have HC5 := Lib.hid (HNN1.out hn _ _ _ T4_45.out)
          clear hn
          try simp only [qV] at HC5
          go_wp2_with fail
          (with_reducible refine (HC5.out).mono ?_)
          rintro e wn5 ⟨vn, rfl, hqn, hbn5⟩
          have HZ := Lib.hid hqn
          obtain ⟨Az5, cz5, rfl, -, -, -, -, -, -⟩ := hqn.open_
          clear hqn
          have HX_46 := Lib.hid (HX_37.out.below hbn5 HX_37.out.lt)
          have HQ_47 := Lib.hid (HQ_38.out.bel hbn5)
          have BB_48 := Lib.hid (bel_step BB_39.out hbn5)
          have Z1_49 := Lib.hid (Z1_40.out.bel hbn5)
          have HY_50 := Lib.hid (HY_41.out.below hbn5 HY_41.out.lt)
          have Z2_51 := Lib.hid (Z2_42.out.bel hbn5)
          have HZ_52 := Lib.hid (HZ_43.out.below hbn5 HZ_43.out.lt)
          have T3_53 := Lib.hid (T3_44.out.bel hbn5)
          have T4_54 := Lib.hid (T4_45.out.bel hbn5)
          clear HX_37 HQ_38 BB_39 Z1_40 HY_41 Z2_42 HZ_43 T3_44 T4_45
          have Z5_55 := HZ
          clear HZ
          try simp only [qV]
          rw [HE1.out]
          have E_56 := bel_alloc (Below.refl wn5.heap.size wn5) (.cells (qV X.op X.n X.s Az5 X.kids.length cz5) 24)
          have HX_56 := Lib.hid (HX_46.out.below E_56 HX_46.out.lt)
          have HQ_57 := Lib.hid (HQ_47.out.bel E_56)
          have BB_58 := Lib.hid (bel_step BB_48.out E_56)
          have Z1_59 := Lib.hid (Z1_49.out.bel E_56)
          have HY_60 := Lib.hid (HY_50.out.below E_56 HY_50.out.lt)
          have Z2_61 := Lib.hid (Z2_51.out.bel E_56)
          have HZ_62 := Lib.hid (HZ_52.out.below E_56 HZ_52.out.lt)
          have T3_63 := Lib.hid (T3_53.out.bel E_56)
          have T4_64 := Lib.hid (T4_54.out.bel E_56)
          have Z5_65 := Lib.hid (Z5_55.out.bel E_56)
          clear HX_46 HQ_47 BB_48 Z1_49 HY_50 Z2_51 HZ_52 T3_53 T4_54 Z5_55
          clear E_56
          have HU_66 := Lib.hid (Blk.new wn5 24 (qV X.op X.n X.s Az5 X.kids.length cz5))
          go_wp2_with fail
          (with_reducible refine (lives25_any _).mono ?_)
          rintro e w3 ⟨rfl, hb3⟩
          have HX_67 := Lib.hid (HX_56.out.below hb3 HX_56.out.lt)
          have HQ_68 := Lib.hid (HQ_57.out.bel hb3)
          have BB_69 := Lib.hid (bel_step BB_58.out hb3)
          have Z1_70 := Lib.hid (Z1_59.out.bel hb3)
          have HY_71 := Lib.hid (HY_60.out.below hb3 HY_60.out.lt)
          have Z2_72 := Lib.hid (Z2_61.out.bel hb3)
          have HZ_73 := Lib.hid (HZ_62.out.below hb3 HZ_62.out.lt)
          have T3_74 := Lib.hid (T3_63.out.bel hb3)
          have T4_75 := Lib.hid (T4_64.out.bel hb3)
          have Z5_76 := Lib.hid (Z5_65.out.bel hb3)
          have HU_77 := Lib.hid (HU_66.out.below hb3 HU_66.out.lt)
          clear HX_56 HQ_57 BB_58 Z1_59 HY_60 Z2_61 HZ_62 T3_63 T4_64 Z5_65 HU_66
          obtain ⟨zhy0, zhy1, zhy2, zhy3⟩ := box_facts HY_71.out
          obtain ⟨zhz0, zhz1, zhz2, zhz3⟩ := box_facts HZ_73.out
          try simp only [qV] at zhy0 zhy1 zhy2 zhy3 zhz0 zhz1 zhz2 zhz3
          have HC6 := Lib.hid (refSame_any25 X X _ _ _ _ _ Z1_70.out Z2_72.out)
          rw [HSM.out] at HC6
          try simp only [qV] at HC6
          go_wp2_with fail
          clear zhy0 zhy1 zhy2 zhy3 zhz0 zhz1 zhz2 zhz3
          (with_reducible refine (HC6.out).mono ?_)
          rintro e w4 ⟨rfl, hb4⟩
          have HX_78 := Lib.hid (HX_67.out.below hb4 HX_67.out.lt)
          have HQ_79 := Lib.hid (HQ_68.out.bel hb4)
          have BB_80 := Lib.hid (bel_step BB_69.out hb4)
          have Z1_81 := Lib.hid (Z1_70.out.bel hb4)
          have HY_82 := Lib.hid (HY_71.out.below hb4 HY_71.out.lt)
          have Z2_83 := Lib.hid (Z2_72.out.bel hb4)
          have HZ_84 := Lib.hid (HZ_73.out.below hb4 HZ_73.out.lt)
          have T3_85 := Lib.hid (T3_74.out.bel hb4)
          have T4_86 := Lib.hid (T4_75.out.bel hb4)
          have Z5_87 := Lib.hid (Z5_76.out.bel hb4)
          have HU_88 := Lib.hid (HU_77.out.below hb4 HU_77.out.lt)
          clear HX_67 HQ_68 BB_69 Z1_70 HY_71 Z2_72 HZ_73 T3_74 T4_75 Z5_76 HU_77
          obtain ⟨zhy0, zhy1, zhy2, zhy3⟩ := box_facts HY_82.out
          obtain ⟨zhu0, zhu1, zhu2, zhu3⟩ := box_facts HU_88.out
          try simp only [qV] at zhy0 zhy1 zhy2 zhy3 zhu0 zhu1 zhu2 zhu3
          have HC7 := Lib.hid (refSame_any25 X X _ _ _ _ _ Z1_81.out Z5_87.out)
          rw [HSM.out] at HC7
          try simp only [qV] at HC7
          go_wp2_with fail
          clear zhy0 zhy1 zhy2 zhy3 zhu0 zhu1 zhu2 zhu3
          (with_reducible refine (HC7.out).mono ?_)
          rintro e w5 ⟨rfl, hb5⟩
          have HX_89 := Lib.hid (HX_78.out.below hb5 HX_78.out.lt)
          have HQ_90 := Lib.hid (HQ_79.out.bel hb5)
          have BB_91 := Lib.hid (bel_step BB_80.out hb5)
          have Z1_92 := Lib.hid (Z1_81.out.bel hb5)
          have HY_93 := Lib.hid (HY_82.out.below hb5 HY_82.out.lt)
          have Z2_94 := Lib.hid (Z2_83.out.bel hb5)
          have HZ_95 := Lib.hid (HZ_84.out.below hb5 HZ_84.out.lt)
          have T3_96 := Lib.hid (T3_85.out.bel hb5)
          have T4_97 := Lib.hid (T4_86.out.bel hb5)
          have Z5_98 := Lib.hid (Z5_87.out.bel hb5)
          have HU_99 := Lib.hid (HU_88.out.below hb5 HU_88.out.lt)
          clear HX_78 HQ_79 BB_80 Z1_81 HY_82 Z2_83 HZ_84 T3_85 T4_86 Z5_87 HU_88
          go_wp2_with fail
          go_ret
          exact ⟨rfl, BB_91.out⟩
end Go.Proofs.Ytjnhhdkphcbflaa
