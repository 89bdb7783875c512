/-
  Events: EventTexts, EventShows walked (printed by gen_evw.py).
-/
import Derived.Test.YtchcedoaiihnmaaDoorEvV
import Derived.Test.YtchcedoaiihnmaaDoorEvL
namespace Go.Proofs.YtchcedoaiihnmaaDoor
open Go.RowKit Go.Nst
set_option maxRecDepth 100000
set_option linter.unusedVariables false
set_option linter.unusedSimpArgs false

set_option maxHeartbeats 8000000 in
theorem eventTexts_walk (l : List UInt8) (m : Int) (w : World) (hM : EvW m w) (hl : l.length ≤ 9223372036854775807) : Calls Tryd.prog 3 #[.string ⟨l.toArray⟩] w (RetTrue w) := by
  have HL := Lib.hid (fun W h => lives14_any m W h)
  by_cases h1000 : 1000 < l.length
  · have t1 : decide ((1000 : Int) < (l.length : Int)) = true := by simp; omega
    have t1b : decide (1000 < l.length) = true := by simp; omega
    go_enter Tryd.func3, Tryd.ntmps3
    go_wp2_with fail
    (with_reducible refine (HL.out _ hM).mono ?_)
    rintro e w1 ⟨rfl, hb1⟩
    go_wp2_with fail
    go_ret
    exact ⟨rfl, hb1⟩
  · have t1 : decide ((1000 : Int) < (l.length : Int)) = false := by simp; omega
    have t1b : decide (1000 < l.length) = false := by simp; omega
    have A1 := Lib.hid (fun W => label_any l W (by omega))
    have R1 := Lib.hid (fun W => refLabel_any l W (by omega))
    have A2 := Lib.hid (fun W => tag_any l W (by omega))
    have R2 := Lib.hid (fun W => refTag_any l W (by omega))
    have A3 := Lib.hid (fun W => title_any l W (by omega))
    have R3 := Lib.hid (fun W => refTitle_any l W (by omega))
    have A4 := Lib.hid (fun W => link_any l W (by omega))
    have R4 := Lib.hid (fun W => refLink_any l W (by omega))
    have A5 := Lib.hid (fun W => query_any l W (by omega))
    have R5 := Lib.hid (fun W => refQuery_any l W (by omega))
    generalize labelB l = x1 at *
    generalize tagB l = x2 at *
    generalize titleB l = x3 at *
    generalize linkB l = x4 at *
    generalize queryB l = x5 at *
    clear h1000
    go_enter Tryd.func3, Tryd.ntmps3
    go_wp2_with fail
    (with_reducible refine (HL.out _ hM).mono ?_)
    rintro e w0 ⟨rfl, B⟩
    go_wp2_with fail
    (with_reducible refine (A1.out _).mono ?_)
    rintro e w1 ⟨rfl, hb⟩
    have B := bel_step B hb
    clear hb
    go_wp2_with fail
    (with_reducible refine (R1.out _).mono ?_)
    rintro e w2 ⟨rfl, hb⟩
    have B := bel_step B hb
    clear hb
    go_wp2_with fail
    (with_reducible refine (A2.out _).mono ?_)
    rintro e w3 ⟨rfl, hb⟩
    have B := bel_step B hb
    clear hb
    go_wp2_with fail
    (with_reducible refine (R2.out _).mono ?_)
    rintro e w4 ⟨rfl, hb⟩
    have B := bel_step B hb
    clear hb
    go_wp2_with fail
    (with_reducible refine (A3.out _).mono ?_)
    rintro e w5 ⟨rfl, hb⟩
    have B := bel_step B hb
    clear hb
    go_wp2_with fail
    (with_reducible refine (R3.out _).mono ?_)
    rintro e w6 ⟨rfl, hb⟩
    have B := bel_step B hb
    clear hb
    go_wp2_with fail
    (with_reducible refine (A4.out _).mono ?_)
    rintro e w7 ⟨rfl, hb⟩
    have B := bel_step B hb
    clear hb
    go_wp2_with fail
    (with_reducible refine (R4.out _).mono ?_)
    rintro e w8 ⟨rfl, hb⟩
    have B := bel_step B hb
    clear hb
    go_wp2_with fail
    (with_reducible refine (A5.out _).mono ?_)
    rintro e w9 ⟨rfl, hb⟩
    have B := bel_step B hb
    clear hb
    go_wp2_with fail
    (with_reducible refine (R5.out _).mono ?_)
    rintro e w10 ⟨rfl, hb⟩
    have B := bel_step B hb
    clear hb
    go_wp2_with fail
    go_ret
    exact ⟨rfl, B⟩
theorem eventTexts_any (s : ByteArray) (m : Int) (w : World) (hM : EvW m w) (hl : s.size ≤ 9223372036854775807) : Calls Tryd.prog 3 #[.string s] w (RetTrue w) := by
  have h := eventTexts_walk (bl s) m w hM (by rw [bl_len]; exact hl)
  rw [bl_mk] at h
  exact h
theorem nameK_inj {k k' : Int} (h : 1 ≤ k ∧ k ≤ 13) (h' : 1 ≤ k' ∧ k' ≤ 13) (e : nameK k = nameK k') : k = k' := by
  unfold nameK at e
  rw [if_pos h, if_pos h'] at e
  have key : ∀ i j : Fin 14, 1 ≤ i.1 → 1 ≤ j.1 → nameL i.1 = nameL j.1 → i = j := by decide +kernel
  have := key ⟨k.toNat, by omega⟩ ⟨k'.toNat, by omega⟩ (by simp; omega) (by simp; omega) e
  injection this with this
  omega
theorem nameK_32 (k : Int) : 32 ∉ nameK k := by
  unfold nameK
  split
  · rename_i h
    have key : ∀ i : Fin 14, 32 ∉ nameL i.1 := by decide +kernel
    exact key ⟨k.toNat, by omega⟩
  · simp
theorem showK_inj {k a b n k' a' b' n' : Int} {s t u s' t' u' : List UInt8} (h : 1 ≤ k ∧ k ≤ 13) (h' : 1 ≤ k' ∧ k' ≤ 13) (e : showK k a b n s t u (nameK k) = showK k' a' b' n' s' t' u' (nameK k')) : k = k' ∧ a = a' ∧ b = b' ∧ n = n' ∧ s = s' ∧ t = t' ∧ u = u' := by
  unfold showK at e
  rw [if_neg (fun q => (nameK_empty k).1 q h), if_neg (fun q => (nameK_empty k').1 q h')] at e
  obtain ⟨g1, g⟩ := showE_inj (nameK_32 _) (nameK_32 _) e
  exact ⟨nameK_inj h h' g1, g⟩
set_option maxHeartbeats 16000000 in
theorem eventShows_walk (pk pa pb pn : Int) (ps pt pu : List UInt8) (qk qa qb qn : Int) (qs qt qu : List UInt8) (m : Int) (w : World) (hM : EvW m w) (ipa : in64e pa) (ipb : in64e pb) (ipn : in64e pn) (iqa : in64e qa) (iqb : in64e qb) (iqn : in64e qn)
    (lps : ps.length ≤ 9223372036854775807) (lpt : pt.length ≤ 9223372036854775807) (lpu : pu.length ≤ 9223372036854775807) (lqs : qs.length ≤ 9223372036854775807) (lqt : qt.length ≤ 9223372036854775807) (lqu : qu.length ≤ 9223372036854775807)
    (HRN : ∀ (k : Int) (W : World), Calls Tryd.prog 17 #[.int .i64 k] W fun e w' => e = .returned (.string ⟨(nameK k).toArray⟩) ∧ Below W.heap.size W w') :
    Calls Tryd.prog 4 #[.agg #[.int .i64 pk, .int .i64 pa, .int .i64 pb, .int .i64 pn, .string ⟨ps.toArray⟩, .string ⟨pt.toArray⟩, .string ⟨pu.toArray⟩], .agg #[.int .i64 qk, .int .i64 qa, .int .i64 qb, .int .i64 qn, .string ⟨qs.toArray⟩, .string ⟨qt.toArray⟩, .string ⟨qu.toArray⟩]] w (RetTrue w) := by
  have HL := Lib.hid (fun W h => lives14_any m W h)
  have HRN := Lib.hid HRN
  have HP := Lib.hid (fun W => large14_any pk pa pb pn ps pt pu W lps lpt lpu)
  have HQ := Lib.hid (fun W => large14_any qk qa qb qn qs qt qu W lqs lqt lqu)
  simp only [evV] at HP HQ
  have B0 := bel_alloc (Below.refl w.heap.size w) (.cells #[.int .i64 pk, .int .i64 pa, .int .i64 pb, .int .i64 pn, .string ⟨ps.toArray⟩, .string ⟨pt.toArray⟩, .string ⟨pu.toArray⟩] 25)
  have hP0 := Blk.new w 25 #[.int .i64 pk, .int .i64 pa, .int .i64 pb, .int .i64 pn, .string ⟨ps.toArray⟩, .string ⟨pt.toArray⟩, .string ⟨pu.toArray⟩]
  have B1 := bel_alloc B0 (.cells #[.int .i64 qk, .int .i64 qa, .int .i64 qb, .int .i64 qn, .string ⟨qs.toArray⟩, .string ⟨qt.toArray⟩, .string ⟨qu.toArray⟩] 25)
  have hP1 := hP0.alloc (.cells #[.int .i64 qk, .int .i64 qa, .int .i64 qb, .int .i64 qn, .string ⟨qs.toArray⟩, .string ⟨qt.toArray⟩, .string ⟨qu.toArray⟩] 25)
  have hQ1 := Blk.new (w.alloc (.cells #[.int .i64 pk, .int .i64 pa, .int .i64 pb, .int .i64 pn, .string ⟨ps.toArray⟩, .string ⟨pt.toArray⟩, .string ⟨pu.toArray⟩] 25)) 25 #[.int .i64 qk, .int .i64 qa, .int .i64 qb, .int .i64 qn, .string ⟨qs.toArray⟩, .string ⟨qt.toArray⟩, .string ⟨qu.toArray⟩]
  rw [World.size_alloc] at hQ1
  clear B0 hP0
  have hlp : largeB ps pt pu = true ∨ (largeB ps pt pu = false ∧ ps.length ≤ 1000 ∧ pt.length ≤ 1000 ∧ pu.length ≤ 1000) := by
    cases h : largeB ps pt pu with
    | true => exact .inl rfl
    | false =>
      right
      unfold largeB at h
      simp at h
      exact ⟨rfl, h.1, h.2.1, h.2.2⟩
  have hlq : largeB qs qt qu = true ∨ (largeB qs qt qu = false ∧ qs.length ≤ 1000 ∧ qt.length ≤ 1000 ∧ qu.length ≤ 1000) := by
    cases h : largeB qs qt qu with
    | true => exact .inl rfl
    | false =>
      right
      unfold largeB at h
      simp at h
      exact ⟨rfl, h.1, h.2.1, h.2.2⟩
  rcases hlp with hlp | ⟨hlp, l1, l2, l3⟩
  · rw [hlp] at HP
    clear hlp hlq
    go_enter Tryd.func4, Tryd.ntmps4
    have z0 := hP1.cell 0
    have z1 := hP1.cell 1
    have z2 := hP1.cell 2
    have z3 := hP1.cell 3
    have z4 := hP1.cell 4
    have z5 := hP1.cell 5
    have z6 := hP1.cell 6
    simp at z0 z1 z2 z3 z4 z5 z6
    go_wp2_with fail
    (with_reducible refine (HP.out _).mono ?_)
    rintro e w1 ⟨rfl, hb⟩
    have B1 := bel_step B1 hb
    have hP1 := hP1.below hb hP1.lt
    have hQ1 := hQ1.below hb hQ1.lt
    clear hb
    clear z0 z1 z2 z3 z4 z5 z6
    go_wp2_with fail
    (with_reducible refine (HL.out _ (hM.keep B1)).mono ?_)
    rintro e w2 ⟨rfl, hb⟩
    have B1 := bel_step B1 hb
    have hP1 := hP1.below hb hP1.lt
    have hQ1 := hQ1.below hb hQ1.lt
    clear hb
    go_wp2_with fail
    go_ret
    exact ⟨rfl, B1⟩
  rw [hlp] at HP
  rcases hlq with hlq | ⟨hlq, l4, l5, l6⟩
  · rw [hlq] at HQ
    clear hlp hlq
    go_enter Tryd.func4, Tryd.ntmps4
    have z0 := hP1.cell 0
    have z1 := hP1.cell 1
    have z2 := hP1.cell 2
    have z3 := hP1.cell 3
    have z4 := hP1.cell 4
    have z5 := hP1.cell 5
    have z6 := hP1.cell 6
    simp at z0 z1 z2 z3 z4 z5 z6
    go_wp2_with fail
    (with_reducible refine (HP.out _).mono ?_)
    rintro e w1 ⟨rfl, hb⟩
    have B1 := bel_step B1 hb
    have hP1 := hP1.below hb hP1.lt
    have hQ1 := hQ1.below hb hQ1.lt
    clear hb
    clear z0 z1 z2 z3 z4 z5 z6
    have z0 := hQ1.cell 0
    have z1 := hQ1.cell 1
    have z2 := hQ1.cell 2
    have z3 := hQ1.cell 3
    have z4 := hQ1.cell 4
    have z5 := hQ1.cell 5
    have z6 := hQ1.cell 6
    simp at z0 z1 z2 z3 z4 z5 z6
    go_wp2_with fail
    (with_reducible refine (HQ.out _).mono ?_)
    rintro e w2 ⟨rfl, hb⟩
    have B1 := bel_step B1 hb
    have hP1 := hP1.below hb hP1.lt
    have hQ1 := hQ1.below hb hQ1.lt
    clear hb
    clear z0 z1 z2 z3 z4 z5 z6
    go_wp2_with fail
    (with_reducible refine (HL.out _ (hM.keep B1)).mono ?_)
    rintro e w3 ⟨rfl, hb⟩
    have B1 := bel_step B1 hb
    have hP1 := hP1.below hb hP1.lt
    have hQ1 := hQ1.below hb hQ1.lt
    clear hb
    go_wp2_with fail
    go_ret
    exact ⟨rfl, B1⟩
  rw [hlq] at HQ
  clear hlp hlq
  have HNP := Lib.hid (fun W => HRN.out pk W)
  have HNQ := Lib.hid (fun W => HRN.out qk W)
  clear HRN
  by_cases hk : 1 ≤ pk ∧ pk ≤ 13
  case neg =>
    rw [(nameK_empty pk).2 hk] at HNP
    clear hk
    go_enter Tryd.func4, Tryd.ntmps4
    have z0 := hP1.cell 0
    have z1 := hP1.cell 1
    have z2 := hP1.cell 2
    have z3 := hP1.cell 3
    have z4 := hP1.cell 4
    have z5 := hP1.cell 5
    have z6 := hP1.cell 6
    simp at z0 z1 z2 z3 z4 z5 z6
    go_wp2_with fail
    (with_reducible refine (HP.out _).mono ?_)
    rintro e w1 ⟨rfl, hb⟩
    have B1 := bel_step B1 hb
    have hP1 := hP1.below hb hP1.lt
    have hQ1 := hQ1.below hb hQ1.lt
    clear hb
    clear z0 z1 z2 z3 z4 z5 z6
    have z0 := hQ1.cell 0
    have z1 := hQ1.cell 1
    have z2 := hQ1.cell 2
    have z3 := hQ1.cell 3
    have z4 := hQ1.cell 4
    have z5 := hQ1.cell 5
    have z6 := hQ1.cell 6
    simp at z0 z1 z2 z3 z4 z5 z6
    go_wp2_with fail
    (with_reducible refine (HQ.out _).mono ?_)
    rintro e w2 ⟨rfl, hb⟩
    have B1 := bel_step B1 hb
    have hP1 := hP1.below hb hP1.lt
    have hQ1 := hQ1.below hb hQ1.lt
    clear hb
    clear z0 z1 z2 z3 z4 z5 z6
    have z0 := hP1.cell 0
    have z1 := hP1.cell 1
    have z2 := hP1.cell 2
    have z3 := hP1.cell 3
    have z4 := hP1.cell 4
    have z5 := hP1.cell 5
    have z6 := hP1.cell 6
    simp at z0 z1 z2 z3 z4 z5 z6
    go_wp2_with fail
    (with_reducible refine (HNP.out _).mono ?_)
    rintro e w3 ⟨rfl, hb⟩
    have B1 := bel_step B1 hb
    have hP1 := hP1.below hb hP1.lt
    have hQ1 := hQ1.below hb hQ1.lt
    clear hb
    clear z0 z1 z2 z3 z4 z5 z6
    go_wp2_with fail
    (with_reducible refine (HL.out _ (hM.keep B1)).mono ?_)
    rintro e w4 ⟨rfl, hb⟩
    have B1 := bel_step B1 hb
    have hP1 := hP1.below hb hP1.lt
    have hQ1 := hQ1.below hb hQ1.lt
    clear hb
    go_wp2_with fail
    go_ret
    exact ⟨rfl, B1⟩
  by_cases hk' : 1 ≤ qk ∧ qk ≤ 13
  case neg =>
    rw [(nameK_empty qk).2 hk'] at HNQ
    have hne := fun q => (nameK_empty pk).1 q hk
    have hn1 : (nameK pk == []) = false := by simpa using hne
    have hn2 : (nameK pk).isEmpty = false := by
      cases h : nameK pk with
      | nil => exact absurd h hne
      | cons a t => rfl
    generalize nameK pk = nm at *
    clear hk hk' hne
    go_enter Tryd.func4, Tryd.ntmps4
    have z0 := hP1.cell 0
    have z1 := hP1.cell 1
    have z2 := hP1.cell 2
    have z3 := hP1.cell 3
    have z4 := hP1.cell 4
    have z5 := hP1.cell 5
    have z6 := hP1.cell 6
    simp at z0 z1 z2 z3 z4 z5 z6
    go_wp2_with fail
    (with_reducible refine (HP.out _).mono ?_)
    rintro e w1 ⟨rfl, hb⟩
    have B1 := bel_step B1 hb
    have hP1 := hP1.below hb hP1.lt
    have hQ1 := hQ1.below hb hQ1.lt
    clear hb
    clear z0 z1 z2 z3 z4 z5 z6
    have z0 := hQ1.cell 0
    have z1 := hQ1.cell 1
    have z2 := hQ1.cell 2
    have z3 := hQ1.cell 3
    have z4 := hQ1.cell 4
    have z5 := hQ1.cell 5
    have z6 := hQ1.cell 6
    simp at z0 z1 z2 z3 z4 z5 z6
    go_wp2_with fail
    (with_reducible refine (HQ.out _).mono ?_)
    rintro e w2 ⟨rfl, hb⟩
    have B1 := bel_step B1 hb
    have hP1 := hP1.below hb hP1.lt
    have hQ1 := hQ1.below hb hQ1.lt
    clear hb
    clear z0 z1 z2 z3 z4 z5 z6
    have z0 := hP1.cell 0
    have z1 := hP1.cell 1
    have z2 := hP1.cell 2
    have z3 := hP1.cell 3
    have z4 := hP1.cell 4
    have z5 := hP1.cell 5
    have z6 := hP1.cell 6
    simp at z0 z1 z2 z3 z4 z5 z6
    go_wp2_with fail
    (with_reducible refine (HNP.out _).mono ?_)
    rintro e w3 ⟨rfl, hb⟩
    have B1 := bel_step B1 hb
    have hP1 := hP1.below hb hP1.lt
    have hQ1 := hQ1.below hb hQ1.lt
    clear hb
    clear z0 z1 z2 z3 z4 z5 z6
    have z0 := hQ1.cell 0
    have z1 := hQ1.cell 1
    have z2 := hQ1.cell 2
    have z3 := hQ1.cell 3
    have z4 := hQ1.cell 4
    have z5 := hQ1.cell 5
    have z6 := hQ1.cell 6
    simp at z0 z1 z2 z3 z4 z5 z6
    go_wp2_with fail
    (with_reducible refine (HNQ.out _).mono ?_)
    rintro e w4 ⟨rfl, hb⟩
    have B1 := bel_step B1 hb
    have hP1 := hP1.below hb hP1.lt
    have hQ1 := hQ1.below hb hQ1.lt
    clear hb
    clear z0 z1 z2 z3 z4 z5 z6
    go_wp2_with fail
    (with_reducible refine (HL.out _ (hM.keep B1)).mono ?_)
    rintro e w5 ⟨rfl, hb⟩
    have B1 := bel_step B1 hb
    have hP1 := hP1.below hb hP1.lt
    have hQ1 := hQ1.below hb hQ1.lt
    clear hb
    go_wp2_with fail
    go_ret
    exact ⟨rfl, B1⟩
  have hinj := fun e => showK_inj (a := pa) (b := pb) (n := pn) (s := ps) (t := pt) (u := pu) (a' := qa) (b' := qb) (n' := qn) (s' := qs) (t' := qt) (u' := qu) hk hk' e
  have HSP := Lib.hid (fun W h => show14_any pk pa pb pn ps pt pu m W h ipa ipb ipn (by omega) (by omega) (by omega))
  have HSQ := Lib.hid (fun W h => show14_any qk qa qb qn qs qt qu m W h iqa iqb iqn (by omega) (by omega) (by omega))
  simp only [evV] at HSP HSQ
  have hne := fun q => (nameK_empty pk).1 q hk
  have hne' := fun q => (nameK_empty qk).1 q hk'
  have hn1 : (nameK pk == []) = false := by simpa using hne
  have hn2 : (nameK pk).isEmpty = false := by
    cases h : nameK pk with
    | nil => exact absurd h hne
    | cons a t => rfl
  have hm1 : (nameK qk == []) = false := by simpa using hne'
  have hm2 : (nameK qk).isEmpty = false := by
    cases h : nameK qk with
    | nil => exact absurd h hne'
    | cons a t => rfl
  clear hk hk' hne hne' ipa ipb ipn iqa iqb iqn lps lpt lpu lqs lqt lqu
  by_cases hs : showK pk pa pb pn ps pt pu (nameK pk) = showK qk qa qb qn qs qt qu (nameK qk)
  · obtain ⟨rfl, rfl, rfl, rfl, rfl, rfl, rfl⟩ := hinj hs
    clear hs hinj
    generalize nameK pk = nm at *
    generalize showK pk pa pb pn ps pt pu nm = res at *
    go_enter Tryd.func4, Tryd.ntmps4
    have z0 := hP1.cell 0
    have z1 := hP1.cell 1
    have z2 := hP1.cell 2
    have z3 := hP1.cell 3
    have z4 := hP1.cell 4
    have z5 := hP1.cell 5
    have z6 := hP1.cell 6
    simp at z0 z1 z2 z3 z4 z5 z6
    go_wp2_with fail
    (with_reducible refine (HP.out _).mono ?_)
    rintro e w1 ⟨rfl, hb⟩
    have B1 := bel_step B1 hb
    have hP1 := hP1.below hb hP1.lt
    have hQ1 := hQ1.below hb hQ1.lt
    clear hb
    clear z0 z1 z2 z3 z4 z5 z6
    have z0 := hQ1.cell 0
    have z1 := hQ1.cell 1
    have z2 := hQ1.cell 2
    have z3 := hQ1.cell 3
    have z4 := hQ1.cell 4
    have z5 := hQ1.cell 5
    have z6 := hQ1.cell 6
    simp at z0 z1 z2 z3 z4 z5 z6
    go_wp2_with fail
    (with_reducible refine (HQ.out _).mono ?_)
    rintro e w2 ⟨rfl, hb⟩
    have B1 := bel_step B1 hb
    have hP1 := hP1.below hb hP1.lt
    have hQ1 := hQ1.below hb hQ1.lt
    clear hb
    clear z0 z1 z2 z3 z4 z5 z6
    have z0 := hP1.cell 0
    have z1 := hP1.cell 1
    have z2 := hP1.cell 2
    have z3 := hP1.cell 3
    have z4 := hP1.cell 4
    have z5 := hP1.cell 5
    have z6 := hP1.cell 6
    simp at z0 z1 z2 z3 z4 z5 z6
    go_wp2_with fail
    (with_reducible refine (HNP.out _).mono ?_)
    rintro e w3 ⟨rfl, hb⟩
    have B1 := bel_step B1 hb
    have hP1 := hP1.below hb hP1.lt
    have hQ1 := hQ1.below hb hQ1.lt
    clear hb
    clear z0 z1 z2 z3 z4 z5 z6
    have z0 := hQ1.cell 0
    have z1 := hQ1.cell 1
    have z2 := hQ1.cell 2
    have z3 := hQ1.cell 3
    have z4 := hQ1.cell 4
    have z5 := hQ1.cell 5
    have z6 := hQ1.cell 6
    simp at z0 z1 z2 z3 z4 z5 z6
    go_wp2_with fail
    (with_reducible refine (HNQ.out _).mono ?_)
    rintro e w4 ⟨rfl, hb⟩
    have B1 := bel_step B1 hb
    have hP1 := hP1.below hb hP1.lt
    have hQ1 := hQ1.below hb hQ1.lt
    clear hb
    clear z0 z1 z2 z3 z4 z5 z6
    go_wp2_with fail
    refine wp_region_ordR (fun w W => Below w.heap.size w W) (fun _ => Below.refl _ _) (fun _ _ _ => bel_step) (by kernel_rfl) (.exec 0 (.take 1 (.take 2 (.take 4 (.take 7 (.take 8 (.take 9 (.exec 3 (.exec 5 (.take 6 (.take 10 (.take 11 (.take 12 (.nil)))))))))))))) (by kernel_rfl) (by kernel_rfl) (by kernel_rfl) ?_
    obtain ⟨w5, hw5⟩ : ∃ w5, w5 = w4.drew := ⟨_, rfl⟩
    have B1 : Below w.heap.size w w5 := by rw [hw5]; exact B1.drew
    have hP1 : Blk w5 w.heap.size 25 #[.int .i64 pk, .int .i64 pa, .int .i64 pb, .int .i64 pn, .string ⟨ps.toArray⟩, .string ⟨pt.toArray⟩, .string ⟨pu.toArray⟩] := by rw [hw5]; exact hP1
    have hQ1 : Blk w5 (w.heap.size + 1) 25 #[.int .i64 pk, .int .i64 pa, .int .i64 pb, .int .i64 pn, .string ⟨ps.toArray⟩, .string ⟨pt.toArray⟩, .string ⟨pu.toArray⟩] := by rw [hw5]; exact hQ1
    rw [← hw5]
    clear hw5
    refine wpOrd_exec (o := ⟨_, _, _, _, _, _⟩) rfl rfl (fun K hK => ?_)
    go_simp
    (with_reducible refine (HL.out _ (hM.keep B1)).mono ?_)
    rintro e w6 ⟨rfl, hb⟩
    have B1 := bel_step B1 hb
    have hP1 := hP1.below hb hP1.lt
    have hQ1 := hQ1.below hb hQ1.lt
    go_wp2_with fail
    refine hK _ _ hb ?_
    clear hK K hb
    have c0 := fun W (hW : Below w6.heap.size w6 W) => (show W.cell? ⟨w.heap.size, 0, none⟩ = some (.int .i64 pk) from ((hP1.below hW hP1.lt).cell 0).trans rfl)
    have c1 := fun W (hW : Below w6.heap.size w6 W) => (show W.cell? ⟨w.heap.size, 1, none⟩ = some (.int .i64 pa) from ((hP1.below hW hP1.lt).cell 1).trans rfl)
    have c2 := fun W (hW : Below w6.heap.size w6 W) => (show W.cell? ⟨w.heap.size, 2, none⟩ = some (.int .i64 pb) from ((hP1.below hW hP1.lt).cell 2).trans rfl)
    have c3 := fun W (hW : Below w6.heap.size w6 W) => (show W.cell? ⟨w.heap.size, 3, none⟩ = some (.int .i64 pn) from ((hP1.below hW hP1.lt).cell 3).trans rfl)
    have c4 := fun W (hW : Below w6.heap.size w6 W) => (show W.cell? ⟨w.heap.size, 4, none⟩ = some (.string ⟨ps.toArray⟩) from ((hP1.below hW hP1.lt).cell 4).trans rfl)
    have c5 := fun W (hW : Below w6.heap.size w6 W) => (show W.cell? ⟨w.heap.size, 5, none⟩ = some (.string ⟨pt.toArray⟩) from ((hP1.below hW hP1.lt).cell 5).trans rfl)
    have c6 := fun W (hW : Below w6.heap.size w6 W) => (show W.cell? ⟨w.heap.size, 6, none⟩ = some (.string ⟨pu.toArray⟩) from ((hP1.below hW hP1.lt).cell 6).trans rfl)
    have d0 := fun W (hW : Below w6.heap.size w6 W) => (show W.cell? ⟨w.heap.size + 1, 0, none⟩ = some (.int .i64 pk) from ((hQ1.below hW hQ1.lt).cell 0).trans rfl)
    have d1 := fun W (hW : Below w6.heap.size w6 W) => (show W.cell? ⟨w.heap.size + 1, 1, none⟩ = some (.int .i64 pa) from ((hQ1.below hW hQ1.lt).cell 1).trans rfl)
    have d2 := fun W (hW : Below w6.heap.size w6 W) => (show W.cell? ⟨w.heap.size + 1, 2, none⟩ = some (.int .i64 pb) from ((hQ1.below hW hQ1.lt).cell 2).trans rfl)
    have d3 := fun W (hW : Below w6.heap.size w6 W) => (show W.cell? ⟨w.heap.size + 1, 3, none⟩ = some (.int .i64 pn) from ((hQ1.below hW hQ1.lt).cell 3).trans rfl)
    have d4 := fun W (hW : Below w6.heap.size w6 W) => (show W.cell? ⟨w.heap.size + 1, 4, none⟩ = some (.string ⟨ps.toArray⟩) from ((hQ1.below hW hQ1.lt).cell 4).trans rfl)
    have d5 := fun W (hW : Below w6.heap.size w6 W) => (show W.cell? ⟨w.heap.size + 1, 5, none⟩ = some (.string ⟨pt.toArray⟩) from ((hQ1.below hW hQ1.lt).cell 5).trans rfl)
    have d6 := fun W (hW : Below w6.heap.size w6 W) => (show W.cell? ⟨w.heap.size + 1, 6, none⟩ = some (.string ⟨pu.toArray⟩) from ((hQ1.below hW hQ1.lt).cell 6).trans rfl)
    iterate 6 (refine wpOrd_take (o := ⟨_, _, _, _, _, _⟩) (v := ?_) rfl rfl ?_ ?_; rotate_left; (focus (intro W hW; go_simp; first | done | with_reducible rfl)); simp only [Act.put, List.setIfInBounds_toArray, List.set_cons_zero, List.set_cons_succ])
    clear c0 c1 c2 c3 c4 c5 c6 d0 d1 d2 d3 d4 d5 d6
    refine wpOrd_exec (o := ⟨_, _, _, _, _, _⟩) rfl rfl (fun K hK => ?_)
    go_simp
    (with_reducible refine (HSP.out _ (hM.keep B1)).mono ?_)
    rintro e w7 ⟨rfl, hb⟩
    have B1 := bel_step B1 hb
    go_wp2_with fail
    refine hK _ _ hb ?_
    clear hK K hb
    refine wpOrd_exec (o := ⟨_, _, _, _, _, _⟩) rfl rfl (fun K hK => ?_)
    go_simp
    (with_reducible refine (HSQ.out _ (hM.keep B1)).mono ?_)
    rintro e w8 ⟨rfl, hb⟩
    have B1 := bel_step B1 hb
    go_wp2_with fail
    refine hK _ _ hb ?_
    clear hK K hb
    iterate 4 (refine wpOrd_take (o := ⟨_, _, _, _, _, _⟩) (v := ?_) rfl rfl ?_ ?_; rotate_left; (focus (intro W hW; go_simp; first | done | with_reducible rfl)); simp only [Act.put, List.setIfInBounds_toArray, List.set_cons_zero, List.set_cons_succ])
    refine wpOrd_nil ?_
    go_wp2_with fail
    go_ret
    exact ⟨rfl, B1⟩
  clear hinj
  by_cases difk : pk = qk
  case neg =>
    have hsb : (showK pk pa pb pn ps pt pu (nameK pk) == showK qk qa qb qn qs qt qu (nameK qk)) = false := beq_eq_false_iff_ne.2 hs
    have hsb2 := difk
    clear hs
    generalize showK pk pa pb pn ps pt pu (nameK pk) = res at *
    generalize showK qk qa qb qn qs qt qu (nameK qk) = res' at *
    generalize nameK pk = nm at *
    generalize nameK qk = nm' at *
    go_enter Tryd.func4, Tryd.ntmps4
    have z0 := hP1.cell 0
    have z1 := hP1.cell 1
    have z2 := hP1.cell 2
    have z3 := hP1.cell 3
    have z4 := hP1.cell 4
    have z5 := hP1.cell 5
    have z6 := hP1.cell 6
    simp at z0 z1 z2 z3 z4 z5 z6
    go_wp2_with fail
    (with_reducible refine (HP.out _).mono ?_)
    rintro e w1 ⟨rfl, hb⟩
    have B1 := bel_step B1 hb
    have hP1 := hP1.below hb hP1.lt
    have hQ1 := hQ1.below hb hQ1.lt
    clear hb
    clear z0 z1 z2 z3 z4 z5 z6
    have z0 := hQ1.cell 0
    have z1 := hQ1.cell 1
    have z2 := hQ1.cell 2
    have z3 := hQ1.cell 3
    have z4 := hQ1.cell 4
    have z5 := hQ1.cell 5
    have z6 := hQ1.cell 6
    simp at z0 z1 z2 z3 z4 z5 z6
    go_wp2_with fail
    (with_reducible refine (HQ.out _).mono ?_)
    rintro e w2 ⟨rfl, hb⟩
    have B1 := bel_step B1 hb
    have hP1 := hP1.below hb hP1.lt
    have hQ1 := hQ1.below hb hQ1.lt
    clear hb
    clear z0 z1 z2 z3 z4 z5 z6
    have z0 := hP1.cell 0
    have z1 := hP1.cell 1
    have z2 := hP1.cell 2
    have z3 := hP1.cell 3
    have z4 := hP1.cell 4
    have z5 := hP1.cell 5
    have z6 := hP1.cell 6
    simp at z0 z1 z2 z3 z4 z5 z6
    go_wp2_with fail
    (with_reducible refine (HNP.out _).mono ?_)
    rintro e w3 ⟨rfl, hb⟩
    have B1 := bel_step B1 hb
    have hP1 := hP1.below hb hP1.lt
    have hQ1 := hQ1.below hb hQ1.lt
    clear hb
    clear z0 z1 z2 z3 z4 z5 z6
    have z0 := hQ1.cell 0
    have z1 := hQ1.cell 1
    have z2 := hQ1.cell 2
    have z3 := hQ1.cell 3
    have z4 := hQ1.cell 4
    have z5 := hQ1.cell 5
    have z6 := hQ1.cell 6
    simp at z0 z1 z2 z3 z4 z5 z6
    go_wp2_with fail
    (with_reducible refine (HNQ.out _).mono ?_)
    rintro e w4 ⟨rfl, hb⟩
    have B1 := bel_step B1 hb
    have hP1 := hP1.below hb hP1.lt
    have hQ1 := hQ1.below hb hQ1.lt
    clear hb
    clear z0 z1 z2 z3 z4 z5 z6
    go_wp2_with fail
    refine wp_region_ordR (fun w W => Below w.heap.size w W) (fun _ => Below.refl _ _) (fun _ _ _ => bel_step) (by kernel_rfl) (.exec 0 (.take 1 (.take 2 (.take 4 (.take 7 (.take 8 (.take 9 (.exec 3 (.exec 5 (.take 6 (.take 10 (.take 11 (.take 12 (.nil)))))))))))))) (by kernel_rfl) (by kernel_rfl) (by kernel_rfl) ?_
    obtain ⟨w5, hw5⟩ : ∃ w5, w5 = w4.drew := ⟨_, rfl⟩
    have B1 : Below w.heap.size w w5 := by rw [hw5]; exact B1.drew
    have hP1 : Blk w5 w.heap.size 25 #[.int .i64 pk, .int .i64 pa, .int .i64 pb, .int .i64 pn, .string ⟨ps.toArray⟩, .string ⟨pt.toArray⟩, .string ⟨pu.toArray⟩] := by rw [hw5]; exact hP1
    have hQ1 : Blk w5 (w.heap.size + 1) 25 #[.int .i64 qk, .int .i64 qa, .int .i64 qb, .int .i64 qn, .string ⟨qs.toArray⟩, .string ⟨qt.toArray⟩, .string ⟨qu.toArray⟩] := by rw [hw5]; exact hQ1
    rw [← hw5]
    clear hw5
    refine wpOrd_exec (o := ⟨_, _, _, _, _, _⟩) rfl rfl (fun K hK => ?_)
    go_simp
    (with_reducible refine (HL.out _ (hM.keep B1)).mono ?_)
    rintro e w6 ⟨rfl, hb⟩
    have B1 := bel_step B1 hb
    have hP1 := hP1.below hb hP1.lt
    have hQ1 := hQ1.below hb hQ1.lt
    go_wp2_with fail
    refine hK _ _ hb ?_
    clear hK K hb
    have c0 := fun W (hW : Below w6.heap.size w6 W) => (show W.cell? ⟨w.heap.size, 0, none⟩ = some (.int .i64 pk) from ((hP1.below hW hP1.lt).cell 0).trans rfl)
    have c1 := fun W (hW : Below w6.heap.size w6 W) => (show W.cell? ⟨w.heap.size, 1, none⟩ = some (.int .i64 pa) from ((hP1.below hW hP1.lt).cell 1).trans rfl)
    have c2 := fun W (hW : Below w6.heap.size w6 W) => (show W.cell? ⟨w.heap.size, 2, none⟩ = some (.int .i64 pb) from ((hP1.below hW hP1.lt).cell 2).trans rfl)
    have c3 := fun W (hW : Below w6.heap.size w6 W) => (show W.cell? ⟨w.heap.size, 3, none⟩ = some (.int .i64 pn) from ((hP1.below hW hP1.lt).cell 3).trans rfl)
    have c4 := fun W (hW : Below w6.heap.size w6 W) => (show W.cell? ⟨w.heap.size, 4, none⟩ = some (.string ⟨ps.toArray⟩) from ((hP1.below hW hP1.lt).cell 4).trans rfl)
    have c5 := fun W (hW : Below w6.heap.size w6 W) => (show W.cell? ⟨w.heap.size, 5, none⟩ = some (.string ⟨pt.toArray⟩) from ((hP1.below hW hP1.lt).cell 5).trans rfl)
    have c6 := fun W (hW : Below w6.heap.size w6 W) => (show W.cell? ⟨w.heap.size, 6, none⟩ = some (.string ⟨pu.toArray⟩) from ((hP1.below hW hP1.lt).cell 6).trans rfl)
    have d0 := fun W (hW : Below w6.heap.size w6 W) => (show W.cell? ⟨w.heap.size + 1, 0, none⟩ = some (.int .i64 qk) from ((hQ1.below hW hQ1.lt).cell 0).trans rfl)
    have d1 := fun W (hW : Below w6.heap.size w6 W) => (show W.cell? ⟨w.heap.size + 1, 1, none⟩ = some (.int .i64 qa) from ((hQ1.below hW hQ1.lt).cell 1).trans rfl)
    have d2 := fun W (hW : Below w6.heap.size w6 W) => (show W.cell? ⟨w.heap.size + 1, 2, none⟩ = some (.int .i64 qb) from ((hQ1.below hW hQ1.lt).cell 2).trans rfl)
    have d3 := fun W (hW : Below w6.heap.size w6 W) => (show W.cell? ⟨w.heap.size + 1, 3, none⟩ = some (.int .i64 qn) from ((hQ1.below hW hQ1.lt).cell 3).trans rfl)
    have d4 := fun W (hW : Below w6.heap.size w6 W) => (show W.cell? ⟨w.heap.size + 1, 4, none⟩ = some (.string ⟨qs.toArray⟩) from ((hQ1.below hW hQ1.lt).cell 4).trans rfl)
    have d5 := fun W (hW : Below w6.heap.size w6 W) => (show W.cell? ⟨w.heap.size + 1, 5, none⟩ = some (.string ⟨qt.toArray⟩) from ((hQ1.below hW hQ1.lt).cell 5).trans rfl)
    have d6 := fun W (hW : Below w6.heap.size w6 W) => (show W.cell? ⟨w.heap.size + 1, 6, none⟩ = some (.string ⟨qu.toArray⟩) from ((hQ1.below hW hQ1.lt).cell 6).trans rfl)
    iterate 6 (refine wpOrd_take (o := ⟨_, _, _, _, _, _⟩) (v := ?_) rfl rfl ?_ ?_; rotate_left; (focus (intro W hW; go_simp; first | done | with_reducible rfl)); simp only [Act.put, List.setIfInBounds_toArray, List.set_cons_zero, List.set_cons_succ])
    clear c0 c1 c2 c3 c4 c5 c6 d0 d1 d2 d3 d4 d5 d6
    refine wpOrd_exec (o := ⟨_, _, _, _, _, _⟩) rfl rfl (fun K hK => ?_)
    go_simp
    (with_reducible refine (HSP.out _ (hM.keep B1)).mono ?_)
    rintro e w7 ⟨rfl, hb⟩
    have B1 := bel_step B1 hb
    go_wp2_with fail
    refine hK _ _ hb ?_
    clear hK K hb
    refine wpOrd_exec (o := ⟨_, _, _, _, _, _⟩) rfl rfl (fun K hK => ?_)
    go_simp
    (with_reducible refine (HSQ.out _ (hM.keep B1)).mono ?_)
    rintro e w8 ⟨rfl, hb⟩
    have B1 := bel_step B1 hb
    go_wp2_with fail
    refine hK _ _ hb ?_
    clear hK K hb
    iterate 4 (refine wpOrd_take (o := ⟨_, _, _, _, _, _⟩) (v := ?_) rfl rfl ?_ ?_; rotate_left; (focus (intro W hW; go_simp; first | done | with_reducible rfl)); simp only [Act.put, List.setIfInBounds_toArray, List.set_cons_zero, List.set_cons_succ])
    refine wpOrd_nil ?_
    go_wp2_with fail
    go_ret
    exact ⟨rfl, B1⟩
  subst difk
  by_cases difa : pa = qa
  case neg =>
    have hsb : (showK pk pa pb pn ps pt pu (nameK pk) == showK pk qa qb qn qs qt qu (nameK pk)) = false := beq_eq_false_iff_ne.2 hs
    have hsb2 := difa
    clear hs
    generalize showK pk pa pb pn ps pt pu (nameK pk) = res at *
    generalize showK pk qa qb qn qs qt qu (nameK pk) = res' at *
    generalize nameK pk = nm at *
    go_enter Tryd.func4, Tryd.ntmps4
    have z0 := hP1.cell 0
    have z1 := hP1.cell 1
    have z2 := hP1.cell 2
    have z3 := hP1.cell 3
    have z4 := hP1.cell 4
    have z5 := hP1.cell 5
    have z6 := hP1.cell 6
    simp at z0 z1 z2 z3 z4 z5 z6
    go_wp2_with fail
    (with_reducible refine (HP.out _).mono ?_)
    rintro e w1 ⟨rfl, hb⟩
    have B1 := bel_step B1 hb
    have hP1 := hP1.below hb hP1.lt
    have hQ1 := hQ1.below hb hQ1.lt
    clear hb
    clear z0 z1 z2 z3 z4 z5 z6
    have z0 := hQ1.cell 0
    have z1 := hQ1.cell 1
    have z2 := hQ1.cell 2
    have z3 := hQ1.cell 3
    have z4 := hQ1.cell 4
    have z5 := hQ1.cell 5
    have z6 := hQ1.cell 6
    simp at z0 z1 z2 z3 z4 z5 z6
    go_wp2_with fail
    (with_reducible refine (HQ.out _).mono ?_)
    rintro e w2 ⟨rfl, hb⟩
    have B1 := bel_step B1 hb
    have hP1 := hP1.below hb hP1.lt
    have hQ1 := hQ1.below hb hQ1.lt
    clear hb
    clear z0 z1 z2 z3 z4 z5 z6
    have z0 := hP1.cell 0
    have z1 := hP1.cell 1
    have z2 := hP1.cell 2
    have z3 := hP1.cell 3
    have z4 := hP1.cell 4
    have z5 := hP1.cell 5
    have z6 := hP1.cell 6
    simp at z0 z1 z2 z3 z4 z5 z6
    go_wp2_with fail
    (with_reducible refine (HNP.out _).mono ?_)
    rintro e w3 ⟨rfl, hb⟩
    have B1 := bel_step B1 hb
    have hP1 := hP1.below hb hP1.lt
    have hQ1 := hQ1.below hb hQ1.lt
    clear hb
    clear z0 z1 z2 z3 z4 z5 z6
    have z0 := hQ1.cell 0
    have z1 := hQ1.cell 1
    have z2 := hQ1.cell 2
    have z3 := hQ1.cell 3
    have z4 := hQ1.cell 4
    have z5 := hQ1.cell 5
    have z6 := hQ1.cell 6
    simp at z0 z1 z2 z3 z4 z5 z6
    go_wp2_with fail
    (with_reducible refine (HNQ.out _).mono ?_)
    rintro e w4 ⟨rfl, hb⟩
    have B1 := bel_step B1 hb
    have hP1 := hP1.below hb hP1.lt
    have hQ1 := hQ1.below hb hQ1.lt
    clear hb
    clear z0 z1 z2 z3 z4 z5 z6
    go_wp2_with fail
    refine wp_region_ordR (fun w W => Below w.heap.size w W) (fun _ => Below.refl _ _) (fun _ _ _ => bel_step) (by kernel_rfl) (.exec 0 (.take 1 (.take 2 (.take 4 (.take 7 (.take 8 (.take 9 (.exec 3 (.exec 5 (.take 6 (.take 10 (.take 11 (.take 12 (.nil)))))))))))))) (by kernel_rfl) (by kernel_rfl) (by kernel_rfl) ?_
    obtain ⟨w5, hw5⟩ : ∃ w5, w5 = w4.drew := ⟨_, rfl⟩
    have B1 : Below w.heap.size w w5 := by rw [hw5]; exact B1.drew
    have hP1 : Blk w5 w.heap.size 25 #[.int .i64 pk, .int .i64 pa, .int .i64 pb, .int .i64 pn, .string ⟨ps.toArray⟩, .string ⟨pt.toArray⟩, .string ⟨pu.toArray⟩] := by rw [hw5]; exact hP1
    have hQ1 : Blk w5 (w.heap.size + 1) 25 #[.int .i64 pk, .int .i64 qa, .int .i64 qb, .int .i64 qn, .string ⟨qs.toArray⟩, .string ⟨qt.toArray⟩, .string ⟨qu.toArray⟩] := by rw [hw5]; exact hQ1
    rw [← hw5]
    clear hw5
    refine wpOrd_exec (o := ⟨_, _, _, _, _, _⟩) rfl rfl (fun K hK => ?_)
    go_simp
    (with_reducible refine (HL.out _ (hM.keep B1)).mono ?_)
    rintro e w6 ⟨rfl, hb⟩
    have B1 := bel_step B1 hb
    have hP1 := hP1.below hb hP1.lt
    have hQ1 := hQ1.below hb hQ1.lt
    go_wp2_with fail
    refine hK _ _ hb ?_
    clear hK K hb
    have c0 := fun W (hW : Below w6.heap.size w6 W) => (show W.cell? ⟨w.heap.size, 0, none⟩ = some (.int .i64 pk) from ((hP1.below hW hP1.lt).cell 0).trans rfl)
    have c1 := fun W (hW : Below w6.heap.size w6 W) => (show W.cell? ⟨w.heap.size, 1, none⟩ = some (.int .i64 pa) from ((hP1.below hW hP1.lt).cell 1).trans rfl)
    have c2 := fun W (hW : Below w6.heap.size w6 W) => (show W.cell? ⟨w.heap.size, 2, none⟩ = some (.int .i64 pb) from ((hP1.below hW hP1.lt).cell 2).trans rfl)
    have c3 := fun W (hW : Below w6.heap.size w6 W) => (show W.cell? ⟨w.heap.size, 3, none⟩ = some (.int .i64 pn) from ((hP1.below hW hP1.lt).cell 3).trans rfl)
    have c4 := fun W (hW : Below w6.heap.size w6 W) => (show W.cell? ⟨w.heap.size, 4, none⟩ = some (.string ⟨ps.toArray⟩) from ((hP1.below hW hP1.lt).cell 4).trans rfl)
    have c5 := fun W (hW : Below w6.heap.size w6 W) => (show W.cell? ⟨w.heap.size, 5, none⟩ = some (.string ⟨pt.toArray⟩) from ((hP1.below hW hP1.lt).cell 5).trans rfl)
    have c6 := fun W (hW : Below w6.heap.size w6 W) => (show W.cell? ⟨w.heap.size, 6, none⟩ = some (.string ⟨pu.toArray⟩) from ((hP1.below hW hP1.lt).cell 6).trans rfl)
    have d0 := fun W (hW : Below w6.heap.size w6 W) => (show W.cell? ⟨w.heap.size + 1, 0, none⟩ = some (.int .i64 pk) from ((hQ1.below hW hQ1.lt).cell 0).trans rfl)
    have d1 := fun W (hW : Below w6.heap.size w6 W) => (show W.cell? ⟨w.heap.size + 1, 1, none⟩ = some (.int .i64 qa) from ((hQ1.below hW hQ1.lt).cell 1).trans rfl)
    have d2 := fun W (hW : Below w6.heap.size w6 W) => (show W.cell? ⟨w.heap.size + 1, 2, none⟩ = some (.int .i64 qb) from ((hQ1.below hW hQ1.lt).cell 2).trans rfl)
    have d3 := fun W (hW : Below w6.heap.size w6 W) => (show W.cell? ⟨w.heap.size + 1, 3, none⟩ = some (.int .i64 qn) from ((hQ1.below hW hQ1.lt).cell 3).trans rfl)
    have d4 := fun W (hW : Below w6.heap.size w6 W) => (show W.cell? ⟨w.heap.size + 1, 4, none⟩ = some (.string ⟨qs.toArray⟩) from ((hQ1.below hW hQ1.lt).cell 4).trans rfl)
    have d5 := fun W (hW : Below w6.heap.size w6 W) => (show W.cell? ⟨w.heap.size + 1, 5, none⟩ = some (.string ⟨qt.toArray⟩) from ((hQ1.below hW hQ1.lt).cell 5).trans rfl)
    have d6 := fun W (hW : Below w6.heap.size w6 W) => (show W.cell? ⟨w.heap.size + 1, 6, none⟩ = some (.string ⟨qu.toArray⟩) from ((hQ1.below hW hQ1.lt).cell 6).trans rfl)
    iterate 6 (refine wpOrd_take (o := ⟨_, _, _, _, _, _⟩) (v := ?_) rfl rfl ?_ ?_; rotate_left; (focus (intro W hW; go_simp; first | done | with_reducible rfl)); simp only [Act.put, List.setIfInBounds_toArray, List.set_cons_zero, List.set_cons_succ])
    clear c0 c1 c2 c3 c4 c5 c6 d0 d1 d2 d3 d4 d5 d6
    refine wpOrd_exec (o := ⟨_, _, _, _, _, _⟩) rfl rfl (fun K hK => ?_)
    go_simp
    (with_reducible refine (HSP.out _ (hM.keep B1)).mono ?_)
    rintro e w7 ⟨rfl, hb⟩
    have B1 := bel_step B1 hb
    go_wp2_with fail
    refine hK _ _ hb ?_
    clear hK K hb
    refine wpOrd_exec (o := ⟨_, _, _, _, _, _⟩) rfl rfl (fun K hK => ?_)
    go_simp
    (with_reducible refine (HSQ.out _ (hM.keep B1)).mono ?_)
    rintro e w8 ⟨rfl, hb⟩
    have B1 := bel_step B1 hb
    go_wp2_with fail
    refine hK _ _ hb ?_
    clear hK K hb
    iterate 4 (refine wpOrd_take (o := ⟨_, _, _, _, _, _⟩) (v := ?_) rfl rfl ?_ ?_; rotate_left; (focus (intro W hW; go_simp; first | done | with_reducible rfl)); simp only [Act.put, List.setIfInBounds_toArray, List.set_cons_zero, List.set_cons_succ])
    refine wpOrd_nil ?_
    go_wp2_with fail
    go_ret
    exact ⟨rfl, B1⟩
  subst difa
  by_cases difb : pb = qb
  case neg =>
    have hsb : (showK pk pa pb pn ps pt pu (nameK pk) == showK pk pa qb qn qs qt qu (nameK pk)) = false := beq_eq_false_iff_ne.2 hs
    have hsb2 := difb
    clear hs
    generalize showK pk pa pb pn ps pt pu (nameK pk) = res at *
    generalize showK pk pa qb qn qs qt qu (nameK pk) = res' at *
    generalize nameK pk = nm at *
    go_enter Tryd.func4, Tryd.ntmps4
    have z0 := hP1.cell 0
    have z1 := hP1.cell 1
    have z2 := hP1.cell 2
    have z3 := hP1.cell 3
    have z4 := hP1.cell 4
    have z5 := hP1.cell 5
    have z6 := hP1.cell 6
    simp at z0 z1 z2 z3 z4 z5 z6
    go_wp2_with fail
    (with_reducible refine (HP.out _).mono ?_)
    rintro e w1 ⟨rfl, hb⟩
    have B1 := bel_step B1 hb
    have hP1 := hP1.below hb hP1.lt
    have hQ1 := hQ1.below hb hQ1.lt
    clear hb
    clear z0 z1 z2 z3 z4 z5 z6
    have z0 := hQ1.cell 0
    have z1 := hQ1.cell 1
    have z2 := hQ1.cell 2
    have z3 := hQ1.cell 3
    have z4 := hQ1.cell 4
    have z5 := hQ1.cell 5
    have z6 := hQ1.cell 6
    simp at z0 z1 z2 z3 z4 z5 z6
    go_wp2_with fail
    (with_reducible refine (HQ.out _).mono ?_)
    rintro e w2 ⟨rfl, hb⟩
    have B1 := bel_step B1 hb
    have hP1 := hP1.below hb hP1.lt
    have hQ1 := hQ1.below hb hQ1.lt
    clear hb
    clear z0 z1 z2 z3 z4 z5 z6
    have z0 := hP1.cell 0
    have z1 := hP1.cell 1
    have z2 := hP1.cell 2
    have z3 := hP1.cell 3
    have z4 := hP1.cell 4
    have z5 := hP1.cell 5
    have z6 := hP1.cell 6
    simp at z0 z1 z2 z3 z4 z5 z6
    go_wp2_with fail
    (with_reducible refine (HNP.out _).mono ?_)
    rintro e w3 ⟨rfl, hb⟩
    have B1 := bel_step B1 hb
    have hP1 := hP1.below hb hP1.lt
    have hQ1 := hQ1.below hb hQ1.lt
    clear hb
    clear z0 z1 z2 z3 z4 z5 z6
    have z0 := hQ1.cell 0
    have z1 := hQ1.cell 1
    have z2 := hQ1.cell 2
    have z3 := hQ1.cell 3
    have z4 := hQ1.cell 4
    have z5 := hQ1.cell 5
    have z6 := hQ1.cell 6
    simp at z0 z1 z2 z3 z4 z5 z6
    go_wp2_with fail
    (with_reducible refine (HNQ.out _).mono ?_)
    rintro e w4 ⟨rfl, hb⟩
    have B1 := bel_step B1 hb
    have hP1 := hP1.below hb hP1.lt
    have hQ1 := hQ1.below hb hQ1.lt
    clear hb
    clear z0 z1 z2 z3 z4 z5 z6
    go_wp2_with fail
    refine wp_region_ordR (fun w W => Below w.heap.size w W) (fun _ => Below.refl _ _) (fun _ _ _ => bel_step) (by kernel_rfl) (.exec 0 (.take 1 (.take 2 (.take 4 (.take 7 (.take 8 (.take 9 (.exec 3 (.exec 5 (.take 6 (.take 10 (.take 11 (.take 12 (.nil)))))))))))))) (by kernel_rfl) (by kernel_rfl) (by kernel_rfl) ?_
    obtain ⟨w5, hw5⟩ : ∃ w5, w5 = w4.drew := ⟨_, rfl⟩
    have B1 : Below w.heap.size w w5 := by rw [hw5]; exact B1.drew
    have hP1 : Blk w5 w.heap.size 25 #[.int .i64 pk, .int .i64 pa, .int .i64 pb, .int .i64 pn, .string ⟨ps.toArray⟩, .string ⟨pt.toArray⟩, .string ⟨pu.toArray⟩] := by rw [hw5]; exact hP1
    have hQ1 : Blk w5 (w.heap.size + 1) 25 #[.int .i64 pk, .int .i64 pa, .int .i64 qb, .int .i64 qn, .string ⟨qs.toArray⟩, .string ⟨qt.toArray⟩, .string ⟨qu.toArray⟩] := by rw [hw5]; exact hQ1
    rw [← hw5]
    clear hw5
    refine wpOrd_exec (o := ⟨_, _, _, _, _, _⟩) rfl rfl (fun K hK => ?_)
    go_simp
    (with_reducible refine (HL.out _ (hM.keep B1)).mono ?_)
    rintro e w6 ⟨rfl, hb⟩
    have B1 := bel_step B1 hb
    have hP1 := hP1.below hb hP1.lt
    have hQ1 := hQ1.below hb hQ1.lt
    go_wp2_with fail
    refine hK _ _ hb ?_
    clear hK K hb
    have c0 := fun W (hW : Below w6.heap.size w6 W) => (show W.cell? ⟨w.heap.size, 0, none⟩ = some (.int .i64 pk) from ((hP1.below hW hP1.lt).cell 0).trans rfl)
    have c1 := fun W (hW : Below w6.heap.size w6 W) => (show W.cell? ⟨w.heap.size, 1, none⟩ = some (.int .i64 pa) from ((hP1.below hW hP1.lt).cell 1).trans rfl)
    have c2 := fun W (hW : Below w6.heap.size w6 W) => (show W.cell? ⟨w.heap.size, 2, none⟩ = some (.int .i64 pb) from ((hP1.below hW hP1.lt).cell 2).trans rfl)
    have c3 := fun W (hW : Below w6.heap.size w6 W) => (show W.cell? ⟨w.heap.size, 3, none⟩ = some (.int .i64 pn) from ((hP1.below hW hP1.lt).cell 3).trans rfl)
    have c4 := fun W (hW : Below w6.heap.size w6 W) => (show W.cell? ⟨w.heap.size, 4, none⟩ = some (.string ⟨ps.toArray⟩) from ((hP1.below hW hP1.lt).cell 4).trans rfl)
    have c5 := fun W (hW : Below w6.heap.size w6 W) => (show W.cell? ⟨w.heap.size, 5, none⟩ = some (.string ⟨pt.toArray⟩) from ((hP1.below hW hP1.lt).cell 5).trans rfl)
    have c6 := fun W (hW : Below w6.heap.size w6 W) => (show W.cell? ⟨w.heap.size, 6, none⟩ = some (.string ⟨pu.toArray⟩) from ((hP1.below hW hP1.lt).cell 6).trans rfl)
    have d0 := fun W (hW : Below w6.heap.size w6 W) => (show W.cell? ⟨w.heap.size + 1, 0, none⟩ = some (.int .i64 pk) from ((hQ1.below hW hQ1.lt).cell 0).trans rfl)
    have d1 := fun W (hW : Below w6.heap.size w6 W) => (show W.cell? ⟨w.heap.size + 1, 1, none⟩ = some (.int .i64 pa) from ((hQ1.below hW hQ1.lt).cell 1).trans rfl)
    have d2 := fun W (hW : Below w6.heap.size w6 W) => (show W.cell? ⟨w.heap.size + 1, 2, none⟩ = some (.int .i64 qb) from ((hQ1.below hW hQ1.lt).cell 2).trans rfl)
    have d3 := fun W (hW : Below w6.heap.size w6 W) => (show W.cell? ⟨w.heap.size + 1, 3, none⟩ = some (.int .i64 qn) from ((hQ1.below hW hQ1.lt).cell 3).trans rfl)
    have d4 := fun W (hW : Below w6.heap.size w6 W) => (show W.cell? ⟨w.heap.size + 1, 4, none⟩ = some (.string ⟨qs.toArray⟩) from ((hQ1.below hW hQ1.lt).cell 4).trans rfl)
    have d5 := fun W (hW : Below w6.heap.size w6 W) => (show W.cell? ⟨w.heap.size + 1, 5, none⟩ = some (.string ⟨qt.toArray⟩) from ((hQ1.below hW hQ1.lt).cell 5).trans rfl)
    have d6 := fun W (hW : Below w6.heap.size w6 W) => (show W.cell? ⟨w.heap.size + 1, 6, none⟩ = some (.string ⟨qu.toArray⟩) from ((hQ1.below hW hQ1.lt).cell 6).trans rfl)
    iterate 6 (refine wpOrd_take (o := ⟨_, _, _, _, _, _⟩) (v := ?_) rfl rfl ?_ ?_; rotate_left; (focus (intro W hW; go_simp; first | done | with_reducible rfl)); simp only [Act.put, List.setIfInBounds_toArray, List.set_cons_zero, List.set_cons_succ])
    clear c0 c1 c2 c3 c4 c5 c6 d0 d1 d2 d3 d4 d5 d6
    refine wpOrd_exec (o := ⟨_, _, _, _, _, _⟩) rfl rfl (fun K hK => ?_)
    go_simp
    (with_reducible refine (HSP.out _ (hM.keep B1)).mono ?_)
    rintro e w7 ⟨rfl, hb⟩
    have B1 := bel_step B1 hb
    go_wp2_with fail
    refine hK _ _ hb ?_
    clear hK K hb
    refine wpOrd_exec (o := ⟨_, _, _, _, _, _⟩) rfl rfl (fun K hK => ?_)
    go_simp
    (with_reducible refine (HSQ.out _ (hM.keep B1)).mono ?_)
    rintro e w8 ⟨rfl, hb⟩
    have B1 := bel_step B1 hb
    go_wp2_with fail
    refine hK _ _ hb ?_
    clear hK K hb
    iterate 4 (refine wpOrd_take (o := ⟨_, _, _, _, _, _⟩) (v := ?_) rfl rfl ?_ ?_; rotate_left; (focus (intro W hW; go_simp; first | done | with_reducible rfl)); simp only [Act.put, List.setIfInBounds_toArray, List.set_cons_zero, List.set_cons_succ])
    refine wpOrd_nil ?_
    go_wp2_with fail
    go_ret
    exact ⟨rfl, B1⟩
  subst difb
  by_cases difn : pn = qn
  case neg =>
    have hsb : (showK pk pa pb pn ps pt pu (nameK pk) == showK pk pa pb qn qs qt qu (nameK pk)) = false := beq_eq_false_iff_ne.2 hs
    have hsb2 := difn
    clear hs
    generalize showK pk pa pb pn ps pt pu (nameK pk) = res at *
    generalize showK pk pa pb qn qs qt qu (nameK pk) = res' at *
    generalize nameK pk = nm at *
    go_enter Tryd.func4, Tryd.ntmps4
    have z0 := hP1.cell 0
    have z1 := hP1.cell 1
    have z2 := hP1.cell 2
    have z3 := hP1.cell 3
    have z4 := hP1.cell 4
    have z5 := hP1.cell 5
    have z6 := hP1.cell 6
    simp at z0 z1 z2 z3 z4 z5 z6
    go_wp2_with fail
    (with_reducible refine (HP.out _).mono ?_)
    rintro e w1 ⟨rfl, hb⟩
    have B1 := bel_step B1 hb
    have hP1 := hP1.below hb hP1.lt
    have hQ1 := hQ1.below hb hQ1.lt
    clear hb
    clear z0 z1 z2 z3 z4 z5 z6
    have z0 := hQ1.cell 0
    have z1 := hQ1.cell 1
    have z2 := hQ1.cell 2
    have z3 := hQ1.cell 3
    have z4 := hQ1.cell 4
    have z5 := hQ1.cell 5
    have z6 := hQ1.cell 6
    simp at z0 z1 z2 z3 z4 z5 z6
    go_wp2_with fail
    (with_reducible refine (HQ.out _).mono ?_)
    rintro e w2 ⟨rfl, hb⟩
    have B1 := bel_step B1 hb
    have hP1 := hP1.below hb hP1.lt
    have hQ1 := hQ1.below hb hQ1.lt
    clear hb
    clear z0 z1 z2 z3 z4 z5 z6
    have z0 := hP1.cell 0
    have z1 := hP1.cell 1
    have z2 := hP1.cell 2
    have z3 := hP1.cell 3
    have z4 := hP1.cell 4
    have z5 := hP1.cell 5
    have z6 := hP1.cell 6
    simp at z0 z1 z2 z3 z4 z5 z6
    go_wp2_with fail
    (with_reducible refine (HNP.out _).mono ?_)
    rintro e w3 ⟨rfl, hb⟩
    have B1 := bel_step B1 hb
    have hP1 := hP1.below hb hP1.lt
    have hQ1 := hQ1.below hb hQ1.lt
    clear hb
    clear z0 z1 z2 z3 z4 z5 z6
    have z0 := hQ1.cell 0
    have z1 := hQ1.cell 1
    have z2 := hQ1.cell 2
    have z3 := hQ1.cell 3
    have z4 := hQ1.cell 4
    have z5 := hQ1.cell 5
    have z6 := hQ1.cell 6
    simp at z0 z1 z2 z3 z4 z5 z6
    go_wp2_with fail
    (with_reducible refine (HNQ.out _).mono ?_)
    rintro e w4 ⟨rfl, hb⟩
    have B1 := bel_step B1 hb
    have hP1 := hP1.below hb hP1.lt
    have hQ1 := hQ1.below hb hQ1.lt
    clear hb
    clear z0 z1 z2 z3 z4 z5 z6
    go_wp2_with fail
    refine wp_region_ordR (fun w W => Below w.heap.size w W) (fun _ => Below.refl _ _) (fun _ _ _ => bel_step) (by kernel_rfl) (.exec 0 (.take 1 (.take 2 (.take 4 (.take 7 (.take 8 (.take 9 (.exec 3 (.exec 5 (.take 6 (.take 10 (.take 11 (.take 12 (.nil)))))))))))))) (by kernel_rfl) (by kernel_rfl) (by kernel_rfl) ?_
    obtain ⟨w5, hw5⟩ : ∃ w5, w5 = w4.drew := ⟨_, rfl⟩
    have B1 : Below w.heap.size w w5 := by rw [hw5]; exact B1.drew
    have hP1 : Blk w5 w.heap.size 25 #[.int .i64 pk, .int .i64 pa, .int .i64 pb, .int .i64 pn, .string ⟨ps.toArray⟩, .string ⟨pt.toArray⟩, .string ⟨pu.toArray⟩] := by rw [hw5]; exact hP1
    have hQ1 : Blk w5 (w.heap.size + 1) 25 #[.int .i64 pk, .int .i64 pa, .int .i64 pb, .int .i64 qn, .string ⟨qs.toArray⟩, .string ⟨qt.toArray⟩, .string ⟨qu.toArray⟩] := by rw [hw5]; exact hQ1
    rw [← hw5]
    clear hw5
    refine wpOrd_exec (o := ⟨_, _, _, _, _, _⟩) rfl rfl (fun K hK => ?_)
    go_simp
    (with_reducible refine (HL.out _ (hM.keep B1)).mono ?_)
    rintro e w6 ⟨rfl, hb⟩
    have B1 := bel_step B1 hb
    have hP1 := hP1.below hb hP1.lt
    have hQ1 := hQ1.below hb hQ1.lt
    go_wp2_with fail
    refine hK _ _ hb ?_
    clear hK K hb
    have c0 := fun W (hW : Below w6.heap.size w6 W) => (show W.cell? ⟨w.heap.size, 0, none⟩ = some (.int .i64 pk) from ((hP1.below hW hP1.lt).cell 0).trans rfl)
    have c1 := fun W (hW : Below w6.heap.size w6 W) => (show W.cell? ⟨w.heap.size, 1, none⟩ = some (.int .i64 pa) from ((hP1.below hW hP1.lt).cell 1).trans rfl)
    have c2 := fun W (hW : Below w6.heap.size w6 W) => (show W.cell? ⟨w.heap.size, 2, none⟩ = some (.int .i64 pb) from ((hP1.below hW hP1.lt).cell 2).trans rfl)
    have c3 := fun W (hW : Below w6.heap.size w6 W) => (show W.cell? ⟨w.heap.size, 3, none⟩ = some (.int .i64 pn) from ((hP1.below hW hP1.lt).cell 3).trans rfl)
    have c4 := fun W (hW : Below w6.heap.size w6 W) => (show W.cell? ⟨w.heap.size, 4, none⟩ = some (.string ⟨ps.toArray⟩) from ((hP1.below hW hP1.lt).cell 4).trans rfl)
    have c5 := fun W (hW : Below w6.heap.size w6 W) => (show W.cell? ⟨w.heap.size, 5, none⟩ = some (.string ⟨pt.toArray⟩) from ((hP1.below hW hP1.lt).cell 5).trans rfl)
    have c6 := fun W (hW : Below w6.heap.size w6 W) => (show W.cell? ⟨w.heap.size, 6, none⟩ = some (.string ⟨pu.toArray⟩) from ((hP1.below hW hP1.lt).cell 6).trans rfl)
    have d0 := fun W (hW : Below w6.heap.size w6 W) => (show W.cell? ⟨w.heap.size + 1, 0, none⟩ = some (.int .i64 pk) from ((hQ1.below hW hQ1.lt).cell 0).trans rfl)
    have d1 := fun W (hW : Below w6.heap.size w6 W) => (show W.cell? ⟨w.heap.size + 1, 1, none⟩ = some (.int .i64 pa) from ((hQ1.below hW hQ1.lt).cell 1).trans rfl)
    have d2 := fun W (hW : Below w6.heap.size w6 W) => (show W.cell? ⟨w.heap.size + 1, 2, none⟩ = some (.int .i64 pb) from ((hQ1.below hW hQ1.lt).cell 2).trans rfl)
    have d3 := fun W (hW : Below w6.heap.size w6 W) => (show W.cell? ⟨w.heap.size + 1, 3, none⟩ = some (.int .i64 qn) from ((hQ1.below hW hQ1.lt).cell 3).trans rfl)
    have d4 := fun W (hW : Below w6.heap.size w6 W) => (show W.cell? ⟨w.heap.size + 1, 4, none⟩ = some (.string ⟨qs.toArray⟩) from ((hQ1.below hW hQ1.lt).cell 4).trans rfl)
    have d5 := fun W (hW : Below w6.heap.size w6 W) => (show W.cell? ⟨w.heap.size + 1, 5, none⟩ = some (.string ⟨qt.toArray⟩) from ((hQ1.below hW hQ1.lt).cell 5).trans rfl)
    have d6 := fun W (hW : Below w6.heap.size w6 W) => (show W.cell? ⟨w.heap.size + 1, 6, none⟩ = some (.string ⟨qu.toArray⟩) from ((hQ1.below hW hQ1.lt).cell 6).trans rfl)
    iterate 6 (refine wpOrd_take (o := ⟨_, _, _, _, _, _⟩) (v := ?_) rfl rfl ?_ ?_; rotate_left; (focus (intro W hW; go_simp; first | done | with_reducible rfl)); simp only [Act.put, List.setIfInBounds_toArray, List.set_cons_zero, List.set_cons_succ])
    clear c0 c1 c2 c3 c4 c5 c6 d0 d1 d2 d3 d4 d5 d6
    refine wpOrd_exec (o := ⟨_, _, _, _, _, _⟩) rfl rfl (fun K hK => ?_)
    go_simp
    (with_reducible refine (HSP.out _ (hM.keep B1)).mono ?_)
    rintro e w7 ⟨rfl, hb⟩
    have B1 := bel_step B1 hb
    go_wp2_with fail
    refine hK _ _ hb ?_
    clear hK K hb
    refine wpOrd_exec (o := ⟨_, _, _, _, _, _⟩) rfl rfl (fun K hK => ?_)
    go_simp
    (with_reducible refine (HSQ.out _ (hM.keep B1)).mono ?_)
    rintro e w8 ⟨rfl, hb⟩
    have B1 := bel_step B1 hb
    go_wp2_with fail
    refine hK _ _ hb ?_
    clear hK K hb
    iterate 4 (refine wpOrd_take (o := ⟨_, _, _, _, _, _⟩) (v := ?_) rfl rfl ?_ ?_; rotate_left; (focus (intro W hW; go_simp; first | done | with_reducible rfl)); simp only [Act.put, List.setIfInBounds_toArray, List.set_cons_zero, List.set_cons_succ])
    refine wpOrd_nil ?_
    go_wp2_with fail
    go_ret
    exact ⟨rfl, B1⟩
  subst difn
  by_cases difs : ps = qs
  case neg =>
    have hsb : (showK pk pa pb pn ps pt pu (nameK pk) == showK pk pa pb pn qs qt qu (nameK pk)) = false := beq_eq_false_iff_ne.2 hs
    have hsb2 := difs
    clear hs
    generalize showK pk pa pb pn ps pt pu (nameK pk) = res at *
    generalize showK pk pa pb pn qs qt qu (nameK pk) = res' at *
    generalize nameK pk = nm at *
    go_enter Tryd.func4, Tryd.ntmps4
    have z0 := hP1.cell 0
    have z1 := hP1.cell 1
    have z2 := hP1.cell 2
    have z3 := hP1.cell 3
    have z4 := hP1.cell 4
    have z5 := hP1.cell 5
    have z6 := hP1.cell 6
    simp at z0 z1 z2 z3 z4 z5 z6
    go_wp2_with fail
    (with_reducible refine (HP.out _).mono ?_)
    rintro e w1 ⟨rfl, hb⟩
    have B1 := bel_step B1 hb
    have hP1 := hP1.below hb hP1.lt
    have hQ1 := hQ1.below hb hQ1.lt
    clear hb
    clear z0 z1 z2 z3 z4 z5 z6
    have z0 := hQ1.cell 0
    have z1 := hQ1.cell 1
    have z2 := hQ1.cell 2
    have z3 := hQ1.cell 3
    have z4 := hQ1.cell 4
    have z5 := hQ1.cell 5
    have z6 := hQ1.cell 6
    simp at z0 z1 z2 z3 z4 z5 z6
    go_wp2_with fail
    (with_reducible refine (HQ.out _).mono ?_)
    rintro e w2 ⟨rfl, hb⟩
    have B1 := bel_step B1 hb
    have hP1 := hP1.below hb hP1.lt
    have hQ1 := hQ1.below hb hQ1.lt
    clear hb
    clear z0 z1 z2 z3 z4 z5 z6
    have z0 := hP1.cell 0
    have z1 := hP1.cell 1
    have z2 := hP1.cell 2
    have z3 := hP1.cell 3
    have z4 := hP1.cell 4
    have z5 := hP1.cell 5
    have z6 := hP1.cell 6
    simp at z0 z1 z2 z3 z4 z5 z6
    go_wp2_with fail
    (with_reducible refine (HNP.out _).mono ?_)
    rintro e w3 ⟨rfl, hb⟩
    have B1 := bel_step B1 hb
    have hP1 := hP1.below hb hP1.lt
    have hQ1 := hQ1.below hb hQ1.lt
    clear hb
    clear z0 z1 z2 z3 z4 z5 z6
    have z0 := hQ1.cell 0
    have z1 := hQ1.cell 1
    have z2 := hQ1.cell 2
    have z3 := hQ1.cell 3
    have z4 := hQ1.cell 4
    have z5 := hQ1.cell 5
    have z6 := hQ1.cell 6
    simp at z0 z1 z2 z3 z4 z5 z6
    go_wp2_with fail
    (with_reducible refine (HNQ.out _).mono ?_)
    rintro e w4 ⟨rfl, hb⟩
    have B1 := bel_step B1 hb
    have hP1 := hP1.below hb hP1.lt
    have hQ1 := hQ1.below hb hQ1.lt
    clear hb
    clear z0 z1 z2 z3 z4 z5 z6
    go_wp2_with fail
    refine wp_region_ordR (fun w W => Below w.heap.size w W) (fun _ => Below.refl _ _) (fun _ _ _ => bel_step) (by kernel_rfl) (.exec 0 (.take 1 (.take 2 (.take 4 (.take 7 (.take 8 (.take 9 (.exec 3 (.exec 5 (.take 6 (.take 10 (.take 11 (.take 12 (.nil)))))))))))))) (by kernel_rfl) (by kernel_rfl) (by kernel_rfl) ?_
    obtain ⟨w5, hw5⟩ : ∃ w5, w5 = w4.drew := ⟨_, rfl⟩
    have B1 : Below w.heap.size w w5 := by rw [hw5]; exact B1.drew
    have hP1 : Blk w5 w.heap.size 25 #[.int .i64 pk, .int .i64 pa, .int .i64 pb, .int .i64 pn, .string ⟨ps.toArray⟩, .string ⟨pt.toArray⟩, .string ⟨pu.toArray⟩] := by rw [hw5]; exact hP1
    have hQ1 : Blk w5 (w.heap.size + 1) 25 #[.int .i64 pk, .int .i64 pa, .int .i64 pb, .int .i64 pn, .string ⟨qs.toArray⟩, .string ⟨qt.toArray⟩, .string ⟨qu.toArray⟩] := by rw [hw5]; exact hQ1
    rw [← hw5]
    clear hw5
    refine wpOrd_exec (o := ⟨_, _, _, _, _, _⟩) rfl rfl (fun K hK => ?_)
    go_simp
    (with_reducible refine (HL.out _ (hM.keep B1)).mono ?_)
    rintro e w6 ⟨rfl, hb⟩
    have B1 := bel_step B1 hb
    have hP1 := hP1.below hb hP1.lt
    have hQ1 := hQ1.below hb hQ1.lt
    go_wp2_with fail
    refine hK _ _ hb ?_
    clear hK K hb
    have c0 := fun W (hW : Below w6.heap.size w6 W) => (show W.cell? ⟨w.heap.size, 0, none⟩ = some (.int .i64 pk) from ((hP1.below hW hP1.lt).cell 0).trans rfl)
    have c1 := fun W (hW : Below w6.heap.size w6 W) => (show W.cell? ⟨w.heap.size, 1, none⟩ = some (.int .i64 pa) from ((hP1.below hW hP1.lt).cell 1).trans rfl)
    have c2 := fun W (hW : Below w6.heap.size w6 W) => (show W.cell? ⟨w.heap.size, 2, none⟩ = some (.int .i64 pb) from ((hP1.below hW hP1.lt).cell 2).trans rfl)
    have c3 := fun W (hW : Below w6.heap.size w6 W) => (show W.cell? ⟨w.heap.size, 3, none⟩ = some (.int .i64 pn) from ((hP1.below hW hP1.lt).cell 3).trans rfl)
    have c4 := fun W (hW : Below w6.heap.size w6 W) => (show W.cell? ⟨w.heap.size, 4, none⟩ = some (.string ⟨ps.toArray⟩) from ((hP1.below hW hP1.lt).cell 4).trans rfl)
    have c5 := fun W (hW : Below w6.heap.size w6 W) => (show W.cell? ⟨w.heap.size, 5, none⟩ = some (.string ⟨pt.toArray⟩) from ((hP1.below hW hP1.lt).cell 5).trans rfl)
    have c6 := fun W (hW : Below w6.heap.size w6 W) => (show W.cell? ⟨w.heap.size, 6, none⟩ = some (.string ⟨pu.toArray⟩) from ((hP1.below hW hP1.lt).cell 6).trans rfl)
    have d0 := fun W (hW : Below w6.heap.size w6 W) => (show W.cell? ⟨w.heap.size + 1, 0, none⟩ = some (.int .i64 pk) from ((hQ1.below hW hQ1.lt).cell 0).trans rfl)
    have d1 := fun W (hW : Below w6.heap.size w6 W) => (show W.cell? ⟨w.heap.size + 1, 1, none⟩ = some (.int .i64 pa) from ((hQ1.below hW hQ1.lt).cell 1).trans rfl)
    have d2 := fun W (hW : Below w6.heap.size w6 W) => (show W.cell? ⟨w.heap.size + 1, 2, none⟩ = some (.int .i64 pb) from ((hQ1.below hW hQ1.lt).cell 2).trans rfl)
    have d3 := fun W (hW : Below w6.heap.size w6 W) => (show W.cell? ⟨w.heap.size + 1, 3, none⟩ = some (.int .i64 pn) from ((hQ1.below hW hQ1.lt).cell 3).trans rfl)
    have d4 := fun W (hW : Below w6.heap.size w6 W) => (show W.cell? ⟨w.heap.size + 1, 4, none⟩ = some (.string ⟨qs.toArray⟩) from ((hQ1.below hW hQ1.lt).cell 4).trans rfl)
    have d5 := fun W (hW : Below w6.heap.size w6 W) => (show W.cell? ⟨w.heap.size + 1, 5, none⟩ = some (.string ⟨qt.toArray⟩) from ((hQ1.below hW hQ1.lt).cell 5).trans rfl)
    have d6 := fun W (hW : Below w6.heap.size w6 W) => (show W.cell? ⟨w.heap.size + 1, 6, none⟩ = some (.string ⟨qu.toArray⟩) from ((hQ1.below hW hQ1.lt).cell 6).trans rfl)
    iterate 6 (refine wpOrd_take (o := ⟨_, _, _, _, _, _⟩) (v := ?_) rfl rfl ?_ ?_; rotate_left; (focus (intro W hW; go_simp; first | done | with_reducible rfl)); simp only [Act.put, List.setIfInBounds_toArray, List.set_cons_zero, List.set_cons_succ])
    clear c0 c1 c2 c3 c4 c5 c6 d0 d1 d2 d3 d4 d5 d6
    refine wpOrd_exec (o := ⟨_, _, _, _, _, _⟩) rfl rfl (fun K hK => ?_)
    go_simp
    (with_reducible refine (HSP.out _ (hM.keep B1)).mono ?_)
    rintro e w7 ⟨rfl, hb⟩
    have B1 := bel_step B1 hb
    go_wp2_with fail
    refine hK _ _ hb ?_
    clear hK K hb
    refine wpOrd_exec (o := ⟨_, _, _, _, _, _⟩) rfl rfl (fun K hK => ?_)
    go_simp
    (with_reducible refine (HSQ.out _ (hM.keep B1)).mono ?_)
    rintro e w8 ⟨rfl, hb⟩
    have B1 := bel_step B1 hb
    go_wp2_with fail
    refine hK _ _ hb ?_
    clear hK K hb
    iterate 4 (refine wpOrd_take (o := ⟨_, _, _, _, _, _⟩) (v := ?_) rfl rfl ?_ ?_; rotate_left; (focus (intro W hW; go_simp; first | done | with_reducible rfl)); simp only [Act.put, List.setIfInBounds_toArray, List.set_cons_zero, List.set_cons_succ])
    refine wpOrd_nil ?_
    go_wp2_with fail
    go_ret
    exact ⟨rfl, B1⟩
  subst difs
  by_cases dift : pt = qt
  case neg =>
    have hsb : (showK pk pa pb pn ps pt pu (nameK pk) == showK pk pa pb pn ps qt qu (nameK pk)) = false := beq_eq_false_iff_ne.2 hs
    have hsb2 := dift
    clear hs
    generalize showK pk pa pb pn ps pt pu (nameK pk) = res at *
    generalize showK pk pa pb pn ps qt qu (nameK pk) = res' at *
    generalize nameK pk = nm at *
    go_enter Tryd.func4, Tryd.ntmps4
    have z0 := hP1.cell 0
    have z1 := hP1.cell 1
    have z2 := hP1.cell 2
    have z3 := hP1.cell 3
    have z4 := hP1.cell 4
    have z5 := hP1.cell 5
    have z6 := hP1.cell 6
    simp at z0 z1 z2 z3 z4 z5 z6
    go_wp2_with fail
    (with_reducible refine (HP.out _).mono ?_)
    rintro e w1 ⟨rfl, hb⟩
    have B1 := bel_step B1 hb
    have hP1 := hP1.below hb hP1.lt
    have hQ1 := hQ1.below hb hQ1.lt
    clear hb
    clear z0 z1 z2 z3 z4 z5 z6
    have z0 := hQ1.cell 0
    have z1 := hQ1.cell 1
    have z2 := hQ1.cell 2
    have z3 := hQ1.cell 3
    have z4 := hQ1.cell 4
    have z5 := hQ1.cell 5
    have z6 := hQ1.cell 6
    simp at z0 z1 z2 z3 z4 z5 z6
    go_wp2_with fail
    (with_reducible refine (HQ.out _).mono ?_)
    rintro e w2 ⟨rfl, hb⟩
    have B1 := bel_step B1 hb
    have hP1 := hP1.below hb hP1.lt
    have hQ1 := hQ1.below hb hQ1.lt
    clear hb
    clear z0 z1 z2 z3 z4 z5 z6
    have z0 := hP1.cell 0
    have z1 := hP1.cell 1
    have z2 := hP1.cell 2
    have z3 := hP1.cell 3
    have z4 := hP1.cell 4
    have z5 := hP1.cell 5
    have z6 := hP1.cell 6
    simp at z0 z1 z2 z3 z4 z5 z6
    go_wp2_with fail
    (with_reducible refine (HNP.out _).mono ?_)
    rintro e w3 ⟨rfl, hb⟩
    have B1 := bel_step B1 hb
    have hP1 := hP1.below hb hP1.lt
    have hQ1 := hQ1.below hb hQ1.lt
    clear hb
    clear z0 z1 z2 z3 z4 z5 z6
    have z0 := hQ1.cell 0
    have z1 := hQ1.cell 1
    have z2 := hQ1.cell 2
    have z3 := hQ1.cell 3
    have z4 := hQ1.cell 4
    have z5 := hQ1.cell 5
    have z6 := hQ1.cell 6
    simp at z0 z1 z2 z3 z4 z5 z6
    go_wp2_with fail
    (with_reducible refine (HNQ.out _).mono ?_)
    rintro e w4 ⟨rfl, hb⟩
    have B1 := bel_step B1 hb
    have hP1 := hP1.below hb hP1.lt
    have hQ1 := hQ1.below hb hQ1.lt
    clear hb
    clear z0 z1 z2 z3 z4 z5 z6
    go_wp2_with fail
    refine wp_region_ordR (fun w W => Below w.heap.size w W) (fun _ => Below.refl _ _) (fun _ _ _ => bel_step) (by kernel_rfl) (.exec 0 (.take 1 (.take 2 (.take 4 (.take 7 (.take 8 (.take 9 (.exec 3 (.exec 5 (.take 6 (.take 10 (.take 11 (.take 12 (.nil)))))))))))))) (by kernel_rfl) (by kernel_rfl) (by kernel_rfl) ?_
    obtain ⟨w5, hw5⟩ : ∃ w5, w5 = w4.drew := ⟨_, rfl⟩
    have B1 : Below w.heap.size w w5 := by rw [hw5]; exact B1.drew
    have hP1 : Blk w5 w.heap.size 25 #[.int .i64 pk, .int .i64 pa, .int .i64 pb, .int .i64 pn, .string ⟨ps.toArray⟩, .string ⟨pt.toArray⟩, .string ⟨pu.toArray⟩] := by rw [hw5]; exact hP1
    have hQ1 : Blk w5 (w.heap.size + 1) 25 #[.int .i64 pk, .int .i64 pa, .int .i64 pb, .int .i64 pn, .string ⟨ps.toArray⟩, .string ⟨qt.toArray⟩, .string ⟨qu.toArray⟩] := by rw [hw5]; exact hQ1
    rw [← hw5]
    clear hw5
    refine wpOrd_exec (o := ⟨_, _, _, _, _, _⟩) rfl rfl (fun K hK => ?_)
    go_simp
    (with_reducible refine (HL.out _ (hM.keep B1)).mono ?_)
    rintro e w6 ⟨rfl, hb⟩
    have B1 := bel_step B1 hb
    have hP1 := hP1.below hb hP1.lt
    have hQ1 := hQ1.below hb hQ1.lt
    go_wp2_with fail
    refine hK _ _ hb ?_
    clear hK K hb
    have c0 := fun W (hW : Below w6.heap.size w6 W) => (show W.cell? ⟨w.heap.size, 0, none⟩ = some (.int .i64 pk) from ((hP1.below hW hP1.lt).cell 0).trans rfl)
    have c1 := fun W (hW : Below w6.heap.size w6 W) => (show W.cell? ⟨w.heap.size, 1, none⟩ = some (.int .i64 pa) from ((hP1.below hW hP1.lt).cell 1).trans rfl)
    have c2 := fun W (hW : Below w6.heap.size w6 W) => (show W.cell? ⟨w.heap.size, 2, none⟩ = some (.int .i64 pb) from ((hP1.below hW hP1.lt).cell 2).trans rfl)
    have c3 := fun W (hW : Below w6.heap.size w6 W) => (show W.cell? ⟨w.heap.size, 3, none⟩ = some (.int .i64 pn) from ((hP1.below hW hP1.lt).cell 3).trans rfl)
    have c4 := fun W (hW : Below w6.heap.size w6 W) => (show W.cell? ⟨w.heap.size, 4, none⟩ = some (.string ⟨ps.toArray⟩) from ((hP1.below hW hP1.lt).cell 4).trans rfl)
    have c5 := fun W (hW : Below w6.heap.size w6 W) => (show W.cell? ⟨w.heap.size, 5, none⟩ = some (.string ⟨pt.toArray⟩) from ((hP1.below hW hP1.lt).cell 5).trans rfl)
    have c6 := fun W (hW : Below w6.heap.size w6 W) => (show W.cell? ⟨w.heap.size, 6, none⟩ = some (.string ⟨pu.toArray⟩) from ((hP1.below hW hP1.lt).cell 6).trans rfl)
    have d0 := fun W (hW : Below w6.heap.size w6 W) => (show W.cell? ⟨w.heap.size + 1, 0, none⟩ = some (.int .i64 pk) from ((hQ1.below hW hQ1.lt).cell 0).trans rfl)
    have d1 := fun W (hW : Below w6.heap.size w6 W) => (show W.cell? ⟨w.heap.size + 1, 1, none⟩ = some (.int .i64 pa) from ((hQ1.below hW hQ1.lt).cell 1).trans rfl)
    have d2 := fun W (hW : Below w6.heap.size w6 W) => (show W.cell? ⟨w.heap.size + 1, 2, none⟩ = some (.int .i64 pb) from ((hQ1.below hW hQ1.lt).cell 2).trans rfl)
    have d3 := fun W (hW : Below w6.heap.size w6 W) => (show W.cell? ⟨w.heap.size + 1, 3, none⟩ = some (.int .i64 pn) from ((hQ1.below hW hQ1.lt).cell 3).trans rfl)
    have d4 := fun W (hW : Below w6.heap.size w6 W) => (show W.cell? ⟨w.heap.size + 1, 4, none⟩ = some (.string ⟨ps.toArray⟩) from ((hQ1.below hW hQ1.lt).cell 4).trans rfl)
    have d5 := fun W (hW : Below w6.heap.size w6 W) => (show W.cell? ⟨w.heap.size + 1, 5, none⟩ = some (.string ⟨qt.toArray⟩) from ((hQ1.below hW hQ1.lt).cell 5).trans rfl)
    have d6 := fun W (hW : Below w6.heap.size w6 W) => (show W.cell? ⟨w.heap.size + 1, 6, none⟩ = some (.string ⟨qu.toArray⟩) from ((hQ1.below hW hQ1.lt).cell 6).trans rfl)
    iterate 6 (refine wpOrd_take (o := ⟨_, _, _, _, _, _⟩) (v := ?_) rfl rfl ?_ ?_; rotate_left; (focus (intro W hW; go_simp; first | done | with_reducible rfl)); simp only [Act.put, List.setIfInBounds_toArray, List.set_cons_zero, List.set_cons_succ])
    clear c0 c1 c2 c3 c4 c5 c6 d0 d1 d2 d3 d4 d5 d6
    refine wpOrd_exec (o := ⟨_, _, _, _, _, _⟩) rfl rfl (fun K hK => ?_)
    go_simp
    (with_reducible refine (HSP.out _ (hM.keep B1)).mono ?_)
    rintro e w7 ⟨rfl, hb⟩
    have B1 := bel_step B1 hb
    go_wp2_with fail
    refine hK _ _ hb ?_
    clear hK K hb
    refine wpOrd_exec (o := ⟨_, _, _, _, _, _⟩) rfl rfl (fun K hK => ?_)
    go_simp
    (with_reducible refine (HSQ.out _ (hM.keep B1)).mono ?_)
    rintro e w8 ⟨rfl, hb⟩
    have B1 := bel_step B1 hb
    go_wp2_with fail
    refine hK _ _ hb ?_
    clear hK K hb
    iterate 4 (refine wpOrd_take (o := ⟨_, _, _, _, _, _⟩) (v := ?_) rfl rfl ?_ ?_; rotate_left; (focus (intro W hW; go_simp; first | done | with_reducible rfl)); simp only [Act.put, List.setIfInBounds_toArray, List.set_cons_zero, List.set_cons_succ])
    refine wpOrd_nil ?_
    go_wp2_with fail
    go_ret
    exact ⟨rfl, B1⟩
  subst dift
  by_cases difu : pu = qu
  case neg =>
    have hsb : (showK pk pa pb pn ps pt pu (nameK pk) == showK pk pa pb pn ps pt qu (nameK pk)) = false := beq_eq_false_iff_ne.2 hs
    have hsb2 := difu
    clear hs
    generalize showK pk pa pb pn ps pt pu (nameK pk) = res at *
    generalize showK pk pa pb pn ps pt qu (nameK pk) = res' at *
    generalize nameK pk = nm at *
    go_enter Tryd.func4, Tryd.ntmps4
    have z0 := hP1.cell 0
    have z1 := hP1.cell 1
    have z2 := hP1.cell 2
    have z3 := hP1.cell 3
    have z4 := hP1.cell 4
    have z5 := hP1.cell 5
    have z6 := hP1.cell 6
    simp at z0 z1 z2 z3 z4 z5 z6
    go_wp2_with fail
    (with_reducible refine (HP.out _).mono ?_)
    rintro e w1 ⟨rfl, hb⟩
    have B1 := bel_step B1 hb
    have hP1 := hP1.below hb hP1.lt
    have hQ1 := hQ1.below hb hQ1.lt
    clear hb
    clear z0 z1 z2 z3 z4 z5 z6
    have z0 := hQ1.cell 0
    have z1 := hQ1.cell 1
    have z2 := hQ1.cell 2
    have z3 := hQ1.cell 3
    have z4 := hQ1.cell 4
    have z5 := hQ1.cell 5
    have z6 := hQ1.cell 6
    simp at z0 z1 z2 z3 z4 z5 z6
    go_wp2_with fail
    (with_reducible refine (HQ.out _).mono ?_)
    rintro e w2 ⟨rfl, hb⟩
    have B1 := bel_step B1 hb
    have hP1 := hP1.below hb hP1.lt
    have hQ1 := hQ1.below hb hQ1.lt
    clear hb
    clear z0 z1 z2 z3 z4 z5 z6
    have z0 := hP1.cell 0
    have z1 := hP1.cell 1
    have z2 := hP1.cell 2
    have z3 := hP1.cell 3
    have z4 := hP1.cell 4
    have z5 := hP1.cell 5
    have z6 := hP1.cell 6
    simp at z0 z1 z2 z3 z4 z5 z6
    go_wp2_with fail
    (with_reducible refine (HNP.out _).mono ?_)
    rintro e w3 ⟨rfl, hb⟩
    have B1 := bel_step B1 hb
    have hP1 := hP1.below hb hP1.lt
    have hQ1 := hQ1.below hb hQ1.lt
    clear hb
    clear z0 z1 z2 z3 z4 z5 z6
    have z0 := hQ1.cell 0
    have z1 := hQ1.cell 1
    have z2 := hQ1.cell 2
    have z3 := hQ1.cell 3
    have z4 := hQ1.cell 4
    have z5 := hQ1.cell 5
    have z6 := hQ1.cell 6
    simp at z0 z1 z2 z3 z4 z5 z6
    go_wp2_with fail
    (with_reducible refine (HNQ.out _).mono ?_)
    rintro e w4 ⟨rfl, hb⟩
    have B1 := bel_step B1 hb
    have hP1 := hP1.below hb hP1.lt
    have hQ1 := hQ1.below hb hQ1.lt
    clear hb
    clear z0 z1 z2 z3 z4 z5 z6
    go_wp2_with fail
    refine wp_region_ordR (fun w W => Below w.heap.size w W) (fun _ => Below.refl _ _) (fun _ _ _ => bel_step) (by kernel_rfl) (.exec 0 (.take 1 (.take 2 (.take 4 (.take 7 (.take 8 (.take 9 (.exec 3 (.exec 5 (.take 6 (.take 10 (.take 11 (.take 12 (.nil)))))))))))))) (by kernel_rfl) (by kernel_rfl) (by kernel_rfl) ?_
    obtain ⟨w5, hw5⟩ : ∃ w5, w5 = w4.drew := ⟨_, rfl⟩
    have B1 : Below w.heap.size w w5 := by rw [hw5]; exact B1.drew
    have hP1 : Blk w5 w.heap.size 25 #[.int .i64 pk, .int .i64 pa, .int .i64 pb, .int .i64 pn, .string ⟨ps.toArray⟩, .string ⟨pt.toArray⟩, .string ⟨pu.toArray⟩] := by rw [hw5]; exact hP1
    have hQ1 : Blk w5 (w.heap.size + 1) 25 #[.int .i64 pk, .int .i64 pa, .int .i64 pb, .int .i64 pn, .string ⟨ps.toArray⟩, .string ⟨pt.toArray⟩, .string ⟨qu.toArray⟩] := by rw [hw5]; exact hQ1
    rw [← hw5]
    clear hw5
    refine wpOrd_exec (o := ⟨_, _, _, _, _, _⟩) rfl rfl (fun K hK => ?_)
    go_simp
    (with_reducible refine (HL.out _ (hM.keep B1)).mono ?_)
    rintro e w6 ⟨rfl, hb⟩
    have B1 := bel_step B1 hb
    have hP1 := hP1.below hb hP1.lt
    have hQ1 := hQ1.below hb hQ1.lt
    go_wp2_with fail
    refine hK _ _ hb ?_
    clear hK K hb
    have c0 := fun W (hW : Below w6.heap.size w6 W) => (show W.cell? ⟨w.heap.size, 0, none⟩ = some (.int .i64 pk) from ((hP1.below hW hP1.lt).cell 0).trans rfl)
    have c1 := fun W (hW : Below w6.heap.size w6 W) => (show W.cell? ⟨w.heap.size, 1, none⟩ = some (.int .i64 pa) from ((hP1.below hW hP1.lt).cell 1).trans rfl)
    have c2 := fun W (hW : Below w6.heap.size w6 W) => (show W.cell? ⟨w.heap.size, 2, none⟩ = some (.int .i64 pb) from ((hP1.below hW hP1.lt).cell 2).trans rfl)
    have c3 := fun W (hW : Below w6.heap.size w6 W) => (show W.cell? ⟨w.heap.size, 3, none⟩ = some (.int .i64 pn) from ((hP1.below hW hP1.lt).cell 3).trans rfl)
    have c4 := fun W (hW : Below w6.heap.size w6 W) => (show W.cell? ⟨w.heap.size, 4, none⟩ = some (.string ⟨ps.toArray⟩) from ((hP1.below hW hP1.lt).cell 4).trans rfl)
    have c5 := fun W (hW : Below w6.heap.size w6 W) => (show W.cell? ⟨w.heap.size, 5, none⟩ = some (.string ⟨pt.toArray⟩) from ((hP1.below hW hP1.lt).cell 5).trans rfl)
    have c6 := fun W (hW : Below w6.heap.size w6 W) => (show W.cell? ⟨w.heap.size, 6, none⟩ = some (.string ⟨pu.toArray⟩) from ((hP1.below hW hP1.lt).cell 6).trans rfl)
    have d0 := fun W (hW : Below w6.heap.size w6 W) => (show W.cell? ⟨w.heap.size + 1, 0, none⟩ = some (.int .i64 pk) from ((hQ1.below hW hQ1.lt).cell 0).trans rfl)
    have d1 := fun W (hW : Below w6.heap.size w6 W) => (show W.cell? ⟨w.heap.size + 1, 1, none⟩ = some (.int .i64 pa) from ((hQ1.below hW hQ1.lt).cell 1).trans rfl)
    have d2 := fun W (hW : Below w6.heap.size w6 W) => (show W.cell? ⟨w.heap.size + 1, 2, none⟩ = some (.int .i64 pb) from ((hQ1.below hW hQ1.lt).cell 2).trans rfl)
    have d3 := fun W (hW : Below w6.heap.size w6 W) => (show W.cell? ⟨w.heap.size + 1, 3, none⟩ = some (.int .i64 pn) from ((hQ1.below hW hQ1.lt).cell 3).trans rfl)
    have d4 := fun W (hW : Below w6.heap.size w6 W) => (show W.cell? ⟨w.heap.size + 1, 4, none⟩ = some (.string ⟨ps.toArray⟩) from ((hQ1.below hW hQ1.lt).cell 4).trans rfl)
    have d5 := fun W (hW : Below w6.heap.size w6 W) => (show W.cell? ⟨w.heap.size + 1, 5, none⟩ = some (.string ⟨pt.toArray⟩) from ((hQ1.below hW hQ1.lt).cell 5).trans rfl)
    have d6 := fun W (hW : Below w6.heap.size w6 W) => (show W.cell? ⟨w.heap.size + 1, 6, none⟩ = some (.string ⟨qu.toArray⟩) from ((hQ1.below hW hQ1.lt).cell 6).trans rfl)
    iterate 6 (refine wpOrd_take (o := ⟨_, _, _, _, _, _⟩) (v := ?_) rfl rfl ?_ ?_; rotate_left; (focus (intro W hW; go_simp; first | done | with_reducible rfl)); simp only [Act.put, List.setIfInBounds_toArray, List.set_cons_zero, List.set_cons_succ])
    clear c0 c1 c2 c3 c4 c5 c6 d0 d1 d2 d3 d4 d5 d6
    refine wpOrd_exec (o := ⟨_, _, _, _, _, _⟩) rfl rfl (fun K hK => ?_)
    go_simp
    (with_reducible refine (HSP.out _ (hM.keep B1)).mono ?_)
    rintro e w7 ⟨rfl, hb⟩
    have B1 := bel_step B1 hb
    go_wp2_with fail
    refine hK _ _ hb ?_
    clear hK K hb
    refine wpOrd_exec (o := ⟨_, _, _, _, _, _⟩) rfl rfl (fun K hK => ?_)
    go_simp
    (with_reducible refine (HSQ.out _ (hM.keep B1)).mono ?_)
    rintro e w8 ⟨rfl, hb⟩
    have B1 := bel_step B1 hb
    go_wp2_with fail
    refine hK _ _ hb ?_
    clear hK K hb
    iterate 4 (refine wpOrd_take (o := ⟨_, _, _, _, _, _⟩) (v := ?_) rfl rfl ?_ ?_; rotate_left; (focus (intro W hW; go_simp; first | done | with_reducible rfl)); simp only [Act.put, List.setIfInBounds_toArray, List.set_cons_zero, List.set_cons_succ])
    refine wpOrd_nil ?_
    go_wp2_with fail
    go_ret
    exact ⟨rfl, B1⟩
  subst difu
  exact absurd rfl hs
end Go.Proofs.YtchcedoaiihnmaaDoor
