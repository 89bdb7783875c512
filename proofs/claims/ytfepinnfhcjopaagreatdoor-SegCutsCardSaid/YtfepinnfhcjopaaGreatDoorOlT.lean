/-
  Third, by how many the second format holds (printed by gen_oldt.py).
-/
import Derived.Test.YtfepinnfhcjopaaGreatDoorOlL
namespace Go.Proofs.YtfepinnfhcjopaaGreatDoor
open Go.RowKit Go.Nst
set_option maxRecDepth 100000
set_option linter.unusedVariables false
set_option linter.unusedSimpArgs false

def evC (e : Ev) : List Value := [.int .i64 e.k, .int .i64 e.a, .int .i64 e.b, .int .i64 e.n, .string ⟨e.s.toArray⟩, .string ⟨e.t.toArray⟩, .string ⟨e.u.toArray⟩]
def evsC (l : List Ev) : List Value := l.flatMap evC
theorem evsC_snoc (l : List Ev) (o : Ev) : evsC (l ++ [o]) = evsC l ++ evC o := by simp [evsC]
theorem evC_one (o : Ev) : ∀ u ∈ evC o, u.oneCell' = true := by
  intro u hu
  simp only [evC, List.mem_cons, List.not_mem_nil, or_false] at hu
  rcases hu with rfl | rfl | rfl | rfl | rfl | rfl | rfl <;> rfl
theorem iEvs : Info Tryz.prog 65 50 (.agg #[.int .i64 0, .int .i64 0, .int .i64 0, .int .i64 0, .string ⟨#[]⟩, .string ⟨#[]⟩, .string ⟨#[]⟩]) 7 80 := Info.mk_ Tryz.underlying65 (by kernel_rfl) rfl (by omega)
abbrev RetEv := RetRow 50 7
def evOf (x : Ol) : Ev := ⟨x.k, x.a, x.b, x.n, x.s, x.t, []⟩
def thirdX (x : Ol) : List Ev := if evOK x.k x.a x.b x.n x.s x.t [] then [evOf x] else []
def thirdO (o : Ol) : List Ev := (secondO o).flatMap thirdX
def Ol.small (x : Ol) : Prop := x.s.length ≤ 10000 ∧ x.t.length ≤ 10000

set_option maxHeartbeats 4000000 in
theorem third_0 (v k a b n : Int) (s t : List UInt8) (w : World) (hs : s.length ≤ 10000) (ht : t.length ≤ 10000) (hN : Nms w)   (hL : secondO ⟨v, k, a, b, n, s, t⟩ = []) : Calls Tryz.prog 72 #[.agg (OC v k a b n s t)] w fun e w' => ∃ m, m = (thirdO ⟨v, k, a, b, n, s, t⟩).length ∧ RetEv w m (evsC (thirdO ⟨v, k, a, b, n, s, t⟩)) e w' := by
  have HO := Lib.hid (fun W h => second_any ⟨v, k, a, b, n, s, t⟩ W hs ht h)
  have HN := Lib.hid (hN.below (bel_alloc (Below.refl w.heap.size w) (.cells (OC v k a b n s t) 90)))
  have B0 := bel_alloc (Below.refl w.heap.size w) (.cells (OC v k a b n s t) 90)
  unfold thirdO
  rw [hL] at HO ⊢
  simp only [OC, List.length_cons, List.length_nil, Nat.zero_add, List.flatMap_cons, List.flatMap_nil, List.append_nil] at *
  clear hL hN
  go_enter Tryz.func72, Tryz.ntmps72
  go_wp2_with fail
  (with_reducible refine (HO.out _ HN.out).mono ?_)
  rintro e w1 ⟨A1, c1, rfl, ho1, hb1⟩
  have B1 := bel_step B0 hb1
  have hsz := B1.size
  clear hb1
  go_wp2_with fail
  go_loopw [3, 12] (fun y x wr => Below w1.heap.size w1 wr ∧ ∃ (A : Option Addr) (m c : Nat) (acc : List Ev), y = .slice A m c ∧ m = acc.length ∧ wr.ownsRow w1.heap.size 50 7 (.slice A m c) m (evsC acc) ∧ ((x = .int .i64 0 ∧ acc = []))) (fun _ x _ => (0 - intOf x).toNat)
  case atStart => exact ⟨Below.refl _ _, none, 0, 0, [], rfl, rfl, World.ownsRow_nil _ _ _ _, ⟨rfl, rfl⟩⟩
  case round =>
    obtain ⟨hbw, A, m, c, acc, rfl, hm, hrow, hst⟩ := hrel
    have hsw := hbw.size
    have hm2 : m ≤ 2 := by
      rw [hm]
      obtain ⟨_, rfl⟩ := hst
      all_goals first | (simp; done) | (simp only [thirdX]; (repeat' split) <;> simp)
    have HM := Lib.hid hm
    clear hm
    obtain ⟨rfl, hacc⟩ := hst
    have HA := Lib.hid hacc
    clear hacc
    go_wp2_with fail
    go_ret
    exact ⟨m, by rw [HM.out, HA.out]; rfl, RetRow.of rfl (own_mono (HA.out ▸ hrow) (by omega)) (bel_step B1 hbw)⟩
set_option maxHeartbeats 4000000 in
theorem third_1 (v k a b n : Int) (s t : List UInt8) (w : World) (hs : s.length ≤ 10000) (ht : t.length ≤ 10000) (hN : Nms w) (pv pk pa pb pn : Int) (ps pt : List UInt8) (hps : ps.length ≤ 10000) (hpt : pt.length ≤ 10000) (hL : secondO ⟨v, k, a, b, n, s, t⟩ = [⟨pv, pk, pa, pb, pn, ps, pt⟩]) : Calls Tryz.prog 72 #[.agg (OC v k a b n s t)] w fun e w' => ∃ m, m = (thirdO ⟨v, k, a, b, n, s, t⟩).length ∧ RetEv w m (evsC (thirdO ⟨v, k, a, b, n, s, t⟩)) e w' := by
  have HO := Lib.hid (fun W h => second_any ⟨v, k, a, b, n, s, t⟩ W hs ht h)
  have HN := Lib.hid (hN.below (bel_alloc (Below.refl w.heap.size w) (.cells (OC v k a b n s t) 90)))
  have B0 := bel_alloc (Below.refl w.heap.size w) (.cells (OC v k a b n s t) 90)
  unfold thirdO
  rw [hL] at HO ⊢
  simp only [OC, List.length_cons, List.length_nil, Nat.zero_add, List.flatMap_cons, List.flatMap_nil, List.append_nil] at *
  clear hL hN
  go_enter Tryz.func72, Tryz.ntmps72
  go_wp2_with fail
  (with_reducible refine (HO.out _ HN.out).mono ?_)
  rintro e w1 ⟨A1, c1, rfl, ho1, hb1⟩
  have B1 := bel_step B0 hb1
  have hsz := B1.size
  obtain ⟨g, rfl, hg1, hg2, _⟩ := own_where ho1 (by omega)
  have HCp : Hid (∀ (i : Nat) (u : Value), (olC ⟨pv, pk, pa, pb, pn, ps, pt⟩)[i]? = some u → w1.cell? ⟨g, 0 + i, none⟩ = some u) := Lib.hid fun i u hu => by
    have hi : i < 7 := by
      rcases Nat.lt_or_ge i 7 with hlt | hge
      · exact hlt
      · rw [List.getElem?_eq_none (by simpa [olC] using hge)] at hu; cases hu
    have h2 := World.ownsRow.cells (g := g) ho1 rfl (0 + i) u (by
      rcases (by omega : i = 0 ∨ i = 1 ∨ i = 2 ∨ i = 3 ∨ i = 4 ∨ i = 5 ∨ i = 6) with rfl | rfl | rfl | rfl | rfl | rfl | rfl <;> exact hu)
    rw [add_lit, Nat.zero_add] at h2
    exact h2
  clear hb1
  go_wp2_with fail
  go_loopw [3, 12] (fun y x wr => Below w1.heap.size w1 wr ∧ ∃ (A : Option Addr) (m c : Nat) (acc : List Ev), y = .slice A m c ∧ m = acc.length ∧ wr.ownsRow w1.heap.size 50 7 (.slice A m c) m (evsC acc) ∧ ((x = .int .i64 0 ∧ acc = []) ∨ (x = .int .i64 1 ∧ acc = thirdX ⟨pv, pk, pa, pb, pn, ps, pt⟩))) (fun _ x _ => (1 - intOf x).toNat)
  case atStart => exact ⟨Below.refl _ _, none, 0, 0, [], rfl, rfl, World.ownsRow_nil _ _ _ _, .inl ⟨rfl, rfl⟩⟩
  case round =>
    obtain ⟨hbw, A, m, c, acc, rfl, hm, hrow, hst⟩ := hrel
    have hsw := hbw.size
    have hm2 : m ≤ 2 := by
      rw [hm]
      rcases hst with ⟨_, rfl⟩ | ⟨_, rfl⟩
      all_goals first | (simp; done) | (simp only [thirdX]; (repeat' split) <;> simp)
    have HM := Lib.hid hm
    clear hm
    rcases hst with ⟨rfl, hacc⟩ | ⟨rfl, hacc⟩
    · have HA := Lib.hid hacc
      clear hacc
      have hcells := fun (i : Nat) (u : Value) (hu : (olC ⟨pv, pk, pa, pb, pn, ps, pt⟩)[i]? = some u) => (hbw.cell (p := ⟨g, 0 + i, none⟩) hg2).trans (HCp.out i u hu)
      have y0 := hcells 0 _ rfl
      have y1 := hcells 1 _ rfl
      have y2 := hcells 2 _ rfl
      have y3 := hcells 3 _ rfl
      have y4 := hcells 4 _ rfl
      have y5 := hcells 5 _ rfl
      have y6 := hcells 6 _ rfl
      simp at y0 y1 y2 y3 y4 y5 y6
      clear hcells
      have HX := Lib.hid (fun W => twoNext_any pv pk pa pb pn ps pt W (by omega) (by omega))
      have B2 := bel_alloc hbw (.cells #[.int .i64 pv, .int .i64 pk, .int .i64 pa, .int .i64 pb, .int .i64 pn, .string ⟨ps.toArray⟩, .string ⟨pt.toArray⟩] 90)
      have D2 := bel_alloc (Below.refl wr.heap.size wr) (.cells #[.int .i64 pv, .int .i64 pk, .int .i64 pa, .int .i64 pb, .int .i64 pn, .string ⟨ps.toArray⟩, .string ⟨pt.toArray⟩] 90)
      unfold twoL at HX
      cases hok_ : evOK pk pa pb pn ps pt [] with
      | false =>
        rw [hok_] at HX
        simp only [OC, lfThree, evV, Bool.false_eq_true, if_false, if_true, List.length_nil, List.length_cons, Nat.zero_add] at HX
        have HOK := Lib.hid hok_
        clear hok_
        go_wp2_with fail
        (with_reducible refine (HX.out _).mono ?_)
        rintro e w2 ⟨A2, c2, rfl, ho2, hb2⟩
        have B3 := bel_step B2 hb2
        have D3 := bel_step D2 hb2
        have hs3 := D3.size
        have hr3 := own_below hrow D3
        go_wp2_with fail
        go_loopw [3, 19] (fun y x wr2 => y = .slice A m c ∧ x = .int .i64 0 ∧ Below w2.heap.size w2 wr2) (fun _ _ _ => 0)
        case atStart => exact ⟨rfl, rfl, Below.refl _ _⟩
        case round =>
          obtain ⟨rfl, rfl, hb5⟩ := hrel
          have B6 := bel_step B3 hb5
          have hr6 := own_below hr3 hb5
          go_wp2_with fail
          go_roundw
          case rel => exact ⟨B6, A, m, c, acc, rfl, HM.out, hr6, .inr (⟨rfl, by rw [HA.out]; simp [thirdX, HOK.out]⟩)⟩
          case measure => simp [intOf]
      | true =>
        rw [hok_] at HX
        simp only [OC, lfThree, evV, Bool.false_eq_true, if_false, if_true, List.length_nil, List.length_cons, Nat.zero_add] at HX
        have HOK := Lib.hid hok_
        clear hok_
        go_wp2_with fail
        (with_reducible refine (HX.out _).mono ?_)
        rintro e w2 ⟨A2, c2, rfl, ho2, hb2⟩
        have B3 := bel_step B2 hb2
        have D3 := bel_step D2 hb2
        have hs3 := D3.size
        have hr3 := own_below hrow D3
        obtain ⟨g2, rfl, hga, hgb, _⟩ := own_where ho2 (by omega)
        have hc2 := World.ownsRow.cells (g := g2) ho2 rfl 0 _ rfl
        rw [add_lit] at hc2
        simp at hc2
        have HC2 := Lib.hid hc2
        clear hc2
        go_wp2_with fail
        go_loopw [3, 19] (fun y x wr2 => (y = .slice A m c ∧ x = .int .i64 0 ∧ Below w2.heap.size w2 wr2) ∨ (∃ A' c', y = .slice A' (m + 1) c' ∧ x = .int .i64 1 ∧ Below w1.heap.size w1 wr2 ∧ wr2.ownsRow w1.heap.size 50 7 (.slice A' (m + 1) c') (m + 1) (evsC acc ++ evC ⟨pk, pa, pb, pn, ps, pt, []⟩))) (fun _ x _ => (1 - intOf x).toNat)
        case atStart => exact .inl ⟨rfl, rfl, Below.refl _ _⟩
        case round =>
          rcases hrel with ⟨rfl, rfl, hb5⟩ | ⟨A', c', rfl, rfl, hb5, hr6⟩
          · have ta := ta_three
            have hc := (hb5.cell (p := ⟨g2, 0, none⟩) hgb).trans HC2.out
            have B6 := bel_step B3 hb5
            have hs6 := B6.size
            have E1 := bel_alloc (bel_alloc (Below.refl wr.heap.size wr) (.cells #[.int .i64 pk, .int .i64 pa, .int .i64 pb, .int .i64 pn, .string ⟨ps.toArray⟩, .string ⟨pt.toArray⟩, .string ⟨#[]⟩] 129)) (.cells #[.int .i64 pk, .int .i64 pa, .int .i64 pb, .int .i64 pn, .string ⟨ps.toArray⟩, .string ⟨pt.toArray⟩, .string ⟨#[]⟩] 50)
            have hr6 := own_below hr3 hb5
            have hr7 := own_below hr6 E1
            have hR := lit_reads (wr.alloc (.cells #[.int .i64 pk, .int .i64 pa, .int .i64 pb, .int .i64 pn, .string ⟨ps.toArray⟩, .string ⟨pt.toArray⟩, .string ⟨#[]⟩] 129)) 50 #[.int .i64 pk, .int .i64 pa, .int .i64 pb, .int .i64 pn, .string ⟨ps.toArray⟩, .string ⟨pt.toArray⟩, .string ⟨#[]⟩] 7 1 (wr.heap.size + 1) rfl (by simp)
            have hone := evC_one ⟨pk, pa, pb, pn, ps, pt, []⟩
            clear hr3 hrow hr6
            go_wp2_with (at_builtin; refine wpList_app _ iEvs rfl rfl rfl hr7 rfl hR hone (by unfold maxLen; omega) (by omega) (by simp; omega) ?_; intro A' c' w' h2 h3 _)
            have B7 : Below w1.heap.size w1 w' := (bel_step B6 E1).trans ((Below.refl _ _).grown h3 (by simp; omega) (fun k hk => (World.ownsRow.lt hr7 k hk).1))
            go_roundw
            case rel => exact .inr ⟨A', c', rfl, rfl, B7, h2⟩
            case measure => simp [intOf]
          · go_wp2_with fail
            go_roundw
            case rel => exact ⟨hb5, A', m + 1, c', acc ++ [⟨pk, pa, pb, pn, ps, pt, []⟩], rfl, by rw [HM.out]; simp, by rw [evsC_snoc]; exact hr6, .inr (⟨rfl, by rw [HA.out]; simp [thirdX, evOf, HOK.out]⟩)⟩
            case measure => simp [intOf]
    · have HA := Lib.hid hacc
      clear hacc
      go_wp2_with fail
      go_ret
      refine ⟨m, ?_, RetRow.of rfl (own_mono (HA.out ▸ hrow) (by omega)) (bel_step B1 hbw)⟩
      rw [HM.out, HA.out]
set_option maxHeartbeats 4000000 in
theorem third_2 (v k a b n : Int) (s t : List UInt8) (w : World) (hs : s.length ≤ 10000) (ht : t.length ≤ 10000) (hN : Nms w) (pv pk pa pb pn : Int) (ps pt : List UInt8) (qv qk qa qb qn : Int) (qs qt : List UInt8) (hps : ps.length ≤ 10000) (hpt : pt.length ≤ 10000) (hqs : qs.length ≤ 10000) (hqt : qt.length ≤ 10000) (hL : secondO ⟨v, k, a, b, n, s, t⟩ = [⟨pv, pk, pa, pb, pn, ps, pt⟩, ⟨qv, qk, qa, qb, qn, qs, qt⟩]) : Calls Tryz.prog 72 #[.agg (OC v k a b n s t)] w fun e w' => ∃ m, m = (thirdO ⟨v, k, a, b, n, s, t⟩).length ∧ RetEv w m (evsC (thirdO ⟨v, k, a, b, n, s, t⟩)) e w' := by
  have HO := Lib.hid (fun W h => second_any ⟨v, k, a, b, n, s, t⟩ W hs ht h)
  have HN := Lib.hid (hN.below (bel_alloc (Below.refl w.heap.size w) (.cells (OC v k a b n s t) 90)))
  have B0 := bel_alloc (Below.refl w.heap.size w) (.cells (OC v k a b n s t) 90)
  unfold thirdO
  rw [hL] at HO ⊢
  simp only [OC, List.length_cons, List.length_nil, Nat.zero_add, List.flatMap_cons, List.flatMap_nil, List.append_nil] at *
  clear hL hN
  go_enter Tryz.func72, Tryz.ntmps72
  go_wp2_with fail
  (with_reducible refine (HO.out _ HN.out).mono ?_)
  rintro e w1 ⟨A1, c1, rfl, ho1, hb1⟩
  have B1 := bel_step B0 hb1
  have hsz := B1.size
  obtain ⟨g, rfl, hg1, hg2, _⟩ := own_where ho1 (by omega)
  have HCp : Hid (∀ (i : Nat) (u : Value), (olC ⟨pv, pk, pa, pb, pn, ps, pt⟩)[i]? = some u → w1.cell? ⟨g, 0 + i, none⟩ = some u) := Lib.hid fun i u hu => by
    have hi : i < 7 := by
      rcases Nat.lt_or_ge i 7 with hlt | hge
      · exact hlt
      · rw [List.getElem?_eq_none (by simpa [olC] using hge)] at hu; cases hu
    have h2 := World.ownsRow.cells (g := g) ho1 rfl (0 + i) u (by
      rcases (by omega : i = 0 ∨ i = 1 ∨ i = 2 ∨ i = 3 ∨ i = 4 ∨ i = 5 ∨ i = 6) with rfl | rfl | rfl | rfl | rfl | rfl | rfl <;> exact hu)
    rw [add_lit, Nat.zero_add] at h2
    exact h2
  have HCq : Hid (∀ (i : Nat) (u : Value), (olC ⟨qv, qk, qa, qb, qn, qs, qt⟩)[i]? = some u → w1.cell? ⟨g, 7 + i, none⟩ = some u) := Lib.hid fun i u hu => by
    have hi : i < 7 := by
      rcases Nat.lt_or_ge i 7 with hlt | hge
      · exact hlt
      · rw [List.getElem?_eq_none (by simpa [olC] using hge)] at hu; cases hu
    have h2 := World.ownsRow.cells (g := g) ho1 rfl (7 + i) u (by
      rcases (by omega : i = 0 ∨ i = 1 ∨ i = 2 ∨ i = 3 ∨ i = 4 ∨ i = 5 ∨ i = 6) with rfl | rfl | rfl | rfl | rfl | rfl | rfl <;> exact hu)
    rw [add_lit, Nat.zero_add] at h2
    exact h2
  clear hb1
  go_wp2_with fail
  go_loopw [3, 12] (fun y x wr => Below w1.heap.size w1 wr ∧ ∃ (A : Option Addr) (m c : Nat) (acc : List Ev), y = .slice A m c ∧ m = acc.length ∧ wr.ownsRow w1.heap.size 50 7 (.slice A m c) m (evsC acc) ∧ ((x = .int .i64 0 ∧ acc = []) ∨ (x = .int .i64 1 ∧ acc = thirdX ⟨pv, pk, pa, pb, pn, ps, pt⟩) ∨ (x = .int .i64 2 ∧ acc = thirdX ⟨pv, pk, pa, pb, pn, ps, pt⟩ ++ thirdX ⟨qv, qk, qa, qb, qn, qs, qt⟩))) (fun _ x _ => (2 - intOf x).toNat)
  case atStart => exact ⟨Below.refl _ _, none, 0, 0, [], rfl, rfl, World.ownsRow_nil _ _ _ _, .inl ⟨rfl, rfl⟩⟩
  case round =>
    obtain ⟨hbw, A, m, c, acc, rfl, hm, hrow, hst⟩ := hrel
    have hsw := hbw.size
    have hm2 : m ≤ 2 := by
      rw [hm]
      rcases hst with ⟨_, rfl⟩ | ⟨_, rfl⟩ | ⟨_, rfl⟩
      all_goals first | (simp; done) | (simp only [thirdX]; (repeat' split) <;> simp)
    have HM := Lib.hid hm
    clear hm
    rcases hst with ⟨rfl, hacc⟩ | ⟨rfl, hacc⟩ | ⟨rfl, hacc⟩
    · have HA := Lib.hid hacc
      clear hacc
      have hcells := fun (i : Nat) (u : Value) (hu : (olC ⟨pv, pk, pa, pb, pn, ps, pt⟩)[i]? = some u) => (hbw.cell (p := ⟨g, 0 + i, none⟩) hg2).trans (HCp.out i u hu)
      have y0 := hcells 0 _ rfl
      have y1 := hcells 1 _ rfl
      have y2 := hcells 2 _ rfl
      have y3 := hcells 3 _ rfl
      have y4 := hcells 4 _ rfl
      have y5 := hcells 5 _ rfl
      have y6 := hcells 6 _ rfl
      simp at y0 y1 y2 y3 y4 y5 y6
      clear hcells
      have HX := Lib.hid (fun W => twoNext_any pv pk pa pb pn ps pt W (by omega) (by omega))
      have B2 := bel_alloc hbw (.cells #[.int .i64 pv, .int .i64 pk, .int .i64 pa, .int .i64 pb, .int .i64 pn, .string ⟨ps.toArray⟩, .string ⟨pt.toArray⟩] 90)
      have D2 := bel_alloc (Below.refl wr.heap.size wr) (.cells #[.int .i64 pv, .int .i64 pk, .int .i64 pa, .int .i64 pb, .int .i64 pn, .string ⟨ps.toArray⟩, .string ⟨pt.toArray⟩] 90)
      unfold twoL at HX
      cases hok_ : evOK pk pa pb pn ps pt [] with
      | false =>
        rw [hok_] at HX
        simp only [OC, lfThree, evV, Bool.false_eq_true, if_false, if_true, List.length_nil, List.length_cons, Nat.zero_add] at HX
        have HOK := Lib.hid hok_
        clear hok_
        go_wp2_with fail
        (with_reducible refine (HX.out _).mono ?_)
        rintro e w2 ⟨A2, c2, rfl, ho2, hb2⟩
        have B3 := bel_step B2 hb2
        have D3 := bel_step D2 hb2
        have hs3 := D3.size
        have hr3 := own_below hrow D3
        go_wp2_with fail
        go_loopw [3, 19] (fun y x wr2 => y = .slice A m c ∧ x = .int .i64 0 ∧ Below w2.heap.size w2 wr2) (fun _ _ _ => 0)
        case atStart => exact ⟨rfl, rfl, Below.refl _ _⟩
        case round =>
          obtain ⟨rfl, rfl, hb5⟩ := hrel
          have B6 := bel_step B3 hb5
          have hr6 := own_below hr3 hb5
          go_wp2_with fail
          go_roundw
          case rel => exact ⟨B6, A, m, c, acc, rfl, HM.out, hr6, .inr (.inl ⟨rfl, by rw [HA.out]; simp [thirdX, HOK.out]⟩)⟩
          case measure => simp [intOf]
      | true =>
        rw [hok_] at HX
        simp only [OC, lfThree, evV, Bool.false_eq_true, if_false, if_true, List.length_nil, List.length_cons, Nat.zero_add] at HX
        have HOK := Lib.hid hok_
        clear hok_
        go_wp2_with fail
        (with_reducible refine (HX.out _).mono ?_)
        rintro e w2 ⟨A2, c2, rfl, ho2, hb2⟩
        have B3 := bel_step B2 hb2
        have D3 := bel_step D2 hb2
        have hs3 := D3.size
        have hr3 := own_below hrow D3
        obtain ⟨g2, rfl, hga, hgb, _⟩ := own_where ho2 (by omega)
        have hc2 := World.ownsRow.cells (g := g2) ho2 rfl 0 _ rfl
        rw [add_lit] at hc2
        simp at hc2
        have HC2 := Lib.hid hc2
        clear hc2
        go_wp2_with fail
        go_loopw [3, 19] (fun y x wr2 => (y = .slice A m c ∧ x = .int .i64 0 ∧ Below w2.heap.size w2 wr2) ∨ (∃ A' c', y = .slice A' (m + 1) c' ∧ x = .int .i64 1 ∧ Below w1.heap.size w1 wr2 ∧ wr2.ownsRow w1.heap.size 50 7 (.slice A' (m + 1) c') (m + 1) (evsC acc ++ evC ⟨pk, pa, pb, pn, ps, pt, []⟩))) (fun _ x _ => (1 - intOf x).toNat)
        case atStart => exact .inl ⟨rfl, rfl, Below.refl _ _⟩
        case round =>
          rcases hrel with ⟨rfl, rfl, hb5⟩ | ⟨A', c', rfl, rfl, hb5, hr6⟩
          · have ta := ta_three
            have hc := (hb5.cell (p := ⟨g2, 0, none⟩) hgb).trans HC2.out
            have B6 := bel_step B3 hb5
            have hs6 := B6.size
            have E1 := bel_alloc (bel_alloc (Below.refl wr.heap.size wr) (.cells #[.int .i64 pk, .int .i64 pa, .int .i64 pb, .int .i64 pn, .string ⟨ps.toArray⟩, .string ⟨pt.toArray⟩, .string ⟨#[]⟩] 129)) (.cells #[.int .i64 pk, .int .i64 pa, .int .i64 pb, .int .i64 pn, .string ⟨ps.toArray⟩, .string ⟨pt.toArray⟩, .string ⟨#[]⟩] 50)
            have hr6 := own_below hr3 hb5
            have hr7 := own_below hr6 E1
            have hR := lit_reads (wr.alloc (.cells #[.int .i64 pk, .int .i64 pa, .int .i64 pb, .int .i64 pn, .string ⟨ps.toArray⟩, .string ⟨pt.toArray⟩, .string ⟨#[]⟩] 129)) 50 #[.int .i64 pk, .int .i64 pa, .int .i64 pb, .int .i64 pn, .string ⟨ps.toArray⟩, .string ⟨pt.toArray⟩, .string ⟨#[]⟩] 7 1 (wr.heap.size + 1) rfl (by simp)
            have hone := evC_one ⟨pk, pa, pb, pn, ps, pt, []⟩
            clear hr3 hrow hr6
            go_wp2_with (at_builtin; refine wpList_app _ iEvs rfl rfl rfl hr7 rfl hR hone (by unfold maxLen; omega) (by omega) (by simp; omega) ?_; intro A' c' w' h2 h3 _)
            have B7 : Below w1.heap.size w1 w' := (bel_step B6 E1).trans ((Below.refl _ _).grown h3 (by simp; omega) (fun k hk => (World.ownsRow.lt hr7 k hk).1))
            go_roundw
            case rel => exact .inr ⟨A', c', rfl, rfl, B7, h2⟩
            case measure => simp [intOf]
          · go_wp2_with fail
            go_roundw
            case rel => exact ⟨hb5, A', m + 1, c', acc ++ [⟨pk, pa, pb, pn, ps, pt, []⟩], rfl, by rw [HM.out]; simp, by rw [evsC_snoc]; exact hr6, .inr (.inl ⟨rfl, by rw [HA.out]; simp [thirdX, evOf, HOK.out]⟩)⟩
            case measure => simp [intOf]
    · have HA := Lib.hid hacc
      clear hacc
      have hcells := fun (i : Nat) (u : Value) (hu : (olC ⟨qv, qk, qa, qb, qn, qs, qt⟩)[i]? = some u) => (hbw.cell (p := ⟨g, 7 + i, none⟩) hg2).trans (HCq.out i u hu)
      have y0 := hcells 0 _ rfl
      have y1 := hcells 1 _ rfl
      have y2 := hcells 2 _ rfl
      have y3 := hcells 3 _ rfl
      have y4 := hcells 4 _ rfl
      have y5 := hcells 5 _ rfl
      have y6 := hcells 6 _ rfl
      simp at y0 y1 y2 y3 y4 y5 y6
      clear hcells
      have HX := Lib.hid (fun W => twoNext_any qv qk qa qb qn qs qt W (by omega) (by omega))
      have B2 := bel_alloc hbw (.cells #[.int .i64 qv, .int .i64 qk, .int .i64 qa, .int .i64 qb, .int .i64 qn, .string ⟨qs.toArray⟩, .string ⟨qt.toArray⟩] 90)
      have D2 := bel_alloc (Below.refl wr.heap.size wr) (.cells #[.int .i64 qv, .int .i64 qk, .int .i64 qa, .int .i64 qb, .int .i64 qn, .string ⟨qs.toArray⟩, .string ⟨qt.toArray⟩] 90)
      unfold twoL at HX
      cases hok_ : evOK qk qa qb qn qs qt [] with
      | false =>
        rw [hok_] at HX
        simp only [OC, lfThree, evV, Bool.false_eq_true, if_false, if_true, List.length_nil, List.length_cons, Nat.zero_add] at HX
        have HOK := Lib.hid hok_
        clear hok_
        go_wp2_with fail
        (with_reducible refine (HX.out _).mono ?_)
        rintro e w2 ⟨A2, c2, rfl, ho2, hb2⟩
        have B3 := bel_step B2 hb2
        have D3 := bel_step D2 hb2
        have hs3 := D3.size
        have hr3 := own_below hrow D3
        go_wp2_with fail
        go_loopw [3, 19] (fun y x wr2 => y = .slice A m c ∧ x = .int .i64 0 ∧ Below w2.heap.size w2 wr2) (fun _ _ _ => 0)
        case atStart => exact ⟨rfl, rfl, Below.refl _ _⟩
        case round =>
          obtain ⟨rfl, rfl, hb5⟩ := hrel
          have B6 := bel_step B3 hb5
          have hr6 := own_below hr3 hb5
          go_wp2_with fail
          go_roundw
          case rel => exact ⟨B6, A, m, c, acc, rfl, HM.out, hr6, .inr (.inr (⟨rfl, by rw [HA.out]; simp [thirdX, HOK.out]⟩))⟩
          case measure => simp [intOf]
      | true =>
        rw [hok_] at HX
        simp only [OC, lfThree, evV, Bool.false_eq_true, if_false, if_true, List.length_nil, List.length_cons, Nat.zero_add] at HX
        have HOK := Lib.hid hok_
        clear hok_
        go_wp2_with fail
        (with_reducible refine (HX.out _).mono ?_)
        rintro e w2 ⟨A2, c2, rfl, ho2, hb2⟩
        have B3 := bel_step B2 hb2
        have D3 := bel_step D2 hb2
        have hs3 := D3.size
        have hr3 := own_below hrow D3
        obtain ⟨g2, rfl, hga, hgb, _⟩ := own_where ho2 (by omega)
        have hc2 := World.ownsRow.cells (g := g2) ho2 rfl 0 _ rfl
        rw [add_lit] at hc2
        simp at hc2
        have HC2 := Lib.hid hc2
        clear hc2
        go_wp2_with fail
        go_loopw [3, 19] (fun y x wr2 => (y = .slice A m c ∧ x = .int .i64 0 ∧ Below w2.heap.size w2 wr2) ∨ (∃ A' c', y = .slice A' (m + 1) c' ∧ x = .int .i64 1 ∧ Below w1.heap.size w1 wr2 ∧ wr2.ownsRow w1.heap.size 50 7 (.slice A' (m + 1) c') (m + 1) (evsC acc ++ evC ⟨qk, qa, qb, qn, qs, qt, []⟩))) (fun _ x _ => (1 - intOf x).toNat)
        case atStart => exact .inl ⟨rfl, rfl, Below.refl _ _⟩
        case round =>
          rcases hrel with ⟨rfl, rfl, hb5⟩ | ⟨A', c', rfl, rfl, hb5, hr6⟩
          · have ta := ta_three
            have hc := (hb5.cell (p := ⟨g2, 0, none⟩) hgb).trans HC2.out
            have B6 := bel_step B3 hb5
            have hs6 := B6.size
            have E1 := bel_alloc (bel_alloc (Below.refl wr.heap.size wr) (.cells #[.int .i64 qk, .int .i64 qa, .int .i64 qb, .int .i64 qn, .string ⟨qs.toArray⟩, .string ⟨qt.toArray⟩, .string ⟨#[]⟩] 129)) (.cells #[.int .i64 qk, .int .i64 qa, .int .i64 qb, .int .i64 qn, .string ⟨qs.toArray⟩, .string ⟨qt.toArray⟩, .string ⟨#[]⟩] 50)
            have hr6 := own_below hr3 hb5
            have hr7 := own_below hr6 E1
            have hR := lit_reads (wr.alloc (.cells #[.int .i64 qk, .int .i64 qa, .int .i64 qb, .int .i64 qn, .string ⟨qs.toArray⟩, .string ⟨qt.toArray⟩, .string ⟨#[]⟩] 129)) 50 #[.int .i64 qk, .int .i64 qa, .int .i64 qb, .int .i64 qn, .string ⟨qs.toArray⟩, .string ⟨qt.toArray⟩, .string ⟨#[]⟩] 7 1 (wr.heap.size + 1) rfl (by simp)
            have hone := evC_one ⟨qk, qa, qb, qn, qs, qt, []⟩
            clear hr3 hrow hr6
            go_wp2_with (at_builtin; refine wpList_app _ iEvs rfl rfl rfl hr7 rfl hR hone (by unfold maxLen; omega) (by omega) (by simp; omega) ?_; intro A' c' w' h2 h3 _)
            have B7 : Below w1.heap.size w1 w' := (bel_step B6 E1).trans ((Below.refl _ _).grown h3 (by simp; omega) (fun k hk => (World.ownsRow.lt hr7 k hk).1))
            go_roundw
            case rel => exact .inr ⟨A', c', rfl, rfl, B7, h2⟩
            case measure => simp [intOf]
          · go_wp2_with fail
            go_roundw
            case rel => exact ⟨hb5, A', m + 1, c', acc ++ [⟨qk, qa, qb, qn, qs, qt, []⟩], rfl, by rw [HM.out]; simp, by rw [evsC_snoc]; exact hr6, .inr (.inr (⟨rfl, by rw [HA.out]; simp [thirdX, evOf, HOK.out]⟩))⟩
            case measure => simp [intOf]
    · have HA := Lib.hid hacc
      clear hacc
      go_wp2_with fail
      go_ret
      refine ⟨m, ?_, RetRow.of rfl (own_mono (HA.out ▸ hrow) (by omega)) (bel_step B1 hbw)⟩
      rw [HM.out, HA.out]
theorem oneO_small {o x : Ol} (hs : o.s.length ≤ 10000) (ht : o.t.length ≤ 10000) (hx : x ∈ secondO o) : x.s.length ≤ 10000 ∧ x.t.length ≤ 10000 := by
  have h := olF (second_ok o x hx).2
  have h1 := h.s
  have h2 := h.t
  omega
theorem third_any (o : Ol) (w : World) (hs : o.s.length ≤ 10000) (ht : o.t.length ≤ 10000) (hN : Nms w) : Calls Tryz.prog 72 #[.agg (OC o.v o.k o.a o.b o.n o.s o.t)] w (RetEv w (thirdO o).length (evsC (thirdO o))) := by
  have hsm := fun x hx => oneO_small (x := x) hs ht hx
  have hl := secondO_len o
  obtain ⟨v, k, a, b, n, s, t⟩ := o
  simp only at hs ht ⊢
  have fin : ∀ e w', (∃ m, m = (thirdO ⟨v, k, a, b, n, s, t⟩).length ∧ RetEv w m (evsC (thirdO ⟨v, k, a, b, n, s, t⟩)) e w') → RetEv w (thirdO ⟨v, k, a, b, n, s, t⟩).length (evsC (thirdO ⟨v, k, a, b, n, s, t⟩)) e w' := by
    rintro e w' ⟨m, rfl, h⟩
    exact h
  cases hL : secondO ⟨v, k, a, b, n, s, t⟩ with
  | nil => exact (third_0 v k a b n s t w hs ht hN hL).mono fin
  | cons p l =>
    have hp := hsm p (by rw [hL]; exact List.mem_cons_self)
    cases l with
    | nil =>
      obtain ⟨pv, pk, pa, pb, pn, ps, pt⟩ := p
      exact (third_1 v k a b n s t w hs ht hN pv pk pa pb pn ps pt hp.1 hp.2 hL).mono fin
    | cons q l2 =>
      have hq := hsm q (by rw [hL]; exact List.mem_cons_of_mem _ List.mem_cons_self)
      cases l2 with
      | nil =>
        obtain ⟨pv, pk, pa, pb, pn, ps, pt⟩ := p
        obtain ⟨qv, qk, qa, qb, qn, qs, qt⟩ := q
        exact (third_2 v k a b n s t w hs ht hN pv pk pa pb pn ps pt qv qk qa qb qn qs qt hp.1 hp.2 hq.1 hq.2 hL).mono fin
      | cons r l3 => rw [hL] at hl; simp at hl
theorem thirdO_len (o : Ol) : (thirdO o).length ≤ 2 := by
  have hl := secondO_len o
  unfold thirdO
  have h1 : ∀ x, (thirdX x).length ≤ 1 := by
    intro x
    unfold thirdX
    split <;> simp
  match hs : secondO o with
  | [] => simp
  | [x] => simp; have := h1 x; omega
  | [x, y] => simp; have := h1 x; have := h1 y; omega
  | _ :: _ :: _ :: _ => rw [hs] at hl; simp at hl
end Go.Proofs.YtfepinnfhcjopaaGreatDoor
