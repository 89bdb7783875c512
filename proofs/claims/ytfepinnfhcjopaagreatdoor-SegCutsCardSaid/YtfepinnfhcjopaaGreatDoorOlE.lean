/-
  The reference's Put of what older formats tell.
  The plain law of older formats' bytes: what is put is got.
  Lists that are the same; the reference's Third; Events (printed by gen_olde.py).
-/
import Derived.Test.YtfepinnfhcjopaaGreatDoorOlL
import Derived.Test.YtfepinnfhcjopaaGreatDoorOlG
import Derived.Test.YtfepinnfhcjopaaGreatDoorOlS
import Derived.Test.YtfepinnfhcjopaaGreatDoorOlH
section
namespace Go.Proofs.YtfepinnfhcjopaaGreatDoor
open Go.RowKit Go.Nst
set_option maxRecDepth 100000
set_option linter.unusedVariables false
set_option linter.unusedSimpArgs false

end Go.Proofs.YtfepinnfhcjopaaGreatDoor
end
section
namespace Go.Proofs.YtfepinnfhcjopaaGreatDoor
open Go.RowKit Go.Nst
set_option maxRecDepth 100000
set_option linter.unusedVariables false
set_option linter.unusedSimpArgs false

theorem rd_ol {o : Ol} (h : o.ok = true) (r : List UInt8) : rdOl ⟨olL o ++ r, false⟩ = (o, ⟨r, false⟩) := by
  have f := olF h
  have hv : (((UInt8.ofNat o.v.toNat).toNat : Nat) : Int) = o.v := by
    have h1 := f.v
    rw [u8_of _ (by omega)]
    omega
  have hk : (((UInt8.ofNat o.k.toNat).toNat : Nat) : Int) = o.k := by
    have h1 := f.ka
    have h2 := f.kz
    rw [u8_of _ (by omega)]
    omega
  unfold rdOl
  rw [show olL o ++ r = UInt8.ofNat o.v.toNat :: (UInt8.ofNat o.k.toNat :: (olT o ++ r)) from rfl, byte_put]
  simp only
  rw [byte_put]
  simp only [hv, hk]
  have e0 : rdN (sN o.v o.k) 0 ⟨olT o ++ r, false⟩ = (o.a, ⟨selN (sN o.v o.k) 1 o.b ++ (selN (sN o.v o.k) 2 o.n ++ (textsL (sT o.v o.k) o.s o.t [] 2 ++ r)), false⟩) := by
    rw [show olT o ++ r = selN (sN o.v o.k) 0 o.a ++ (selN (sN o.v o.k) 1 o.b ++ (selN (sN o.v o.k) 2 o.n ++ (textsL (sT o.v o.k) o.s o.t [] 2 ++ r))) by simp [olT, numsL]]
    exact rdN_sel f.a f.a0 _
  have e1 : rdN (sN o.v o.k) 1 ⟨selN (sN o.v o.k) 1 o.b ++ (selN (sN o.v o.k) 2 o.n ++ (textsL (sT o.v o.k) o.s o.t [] 2 ++ r)), false⟩ = _ := rdN_sel f.b f.b0 _
  have e2 : rdN (sN o.v o.k) 2 ⟨selN (sN o.v o.k) 2 o.n ++ (textsL (sT o.v o.k) o.s o.t [] 2 ++ r), false⟩ = _ := rdN_sel f.n f.n0 _
  have t0 : rdT (sT o.v o.k) 0 ⟨textsL (sT o.v o.k) o.s o.t [] 2 ++ r, false⟩ = (o.s, ⟨selT (sT o.v o.k) 1 o.t ++ r, false⟩) := by
    rw [show textsL (sT o.v o.k) o.s o.t [] 2 ++ r = selT (sT o.v o.k) 0 o.s ++ (selT (sT o.v o.k) 1 o.t ++ r) by simp [textsL]]
    exact rdT_sel (by have := f.s; omega) f.s0 _
  have t1 : rdT (sT o.v o.k) 1 ⟨selT (sT o.v o.k) 1 o.t ++ r, false⟩ = _ := rdT_sel (by have := f.t; omega) f.t0 _
  simp only [vaN, stN, vaT, stT, e0, e1, e2, t0, t1]
theorem get_ol {o : Ol} (h : o.ok = true) : getO (olL o) = some o := by
  have h1 := rd_ol h []
  rw [List.append_nil] at h1
  unfold getO
  rw [h1]
  simp [h]
end Go.Proofs.YtfepinnfhcjopaaGreatDoor
end
section
namespace Go.Proofs.YtfepinnfhcjopaaGreatDoor
open Go.RowKit Go.Nst
set_option maxRecDepth 100000
set_option linter.unusedVariables false
set_option linter.unusedSimpArgs false

theorem below_realloc {B : Nat} {w : World} (o o' : Obj) (h : B ≤ w.heap.size) : Below B (w.alloc o) (w.alloc o') :=
  ⟨rfl, rfl, rfl, by simp, fun i hi => (Below.heap_alloc w o' i (by omega)).trans (Below.heap_alloc w o i (by omega)).symm⟩
def large16 (s t : List UInt8) : Bool := decide (2000 < s.length) || decide (2000 < t.length)
theorem large16_no {s t : List UInt8} (h : large16 s t = false) : s.length ≤ 2000 ∧ t.length ≤ 2000 := by
  unfold large16 at h
  simp at h
  omega
theorem refSecond_any (o : Ol) (w : World) (hs : o.s.length ≤ 10000) (ht : o.t.length ≤ 10000) : Calls Tryz.prog 81 #[.agg (OC o.v o.k o.a o.b o.n o.s o.t)] w (RetOl w (secondO o).length (olsC (secondO o))) := by
  obtain ⟨v, k, a, b, n, s, t⟩ := o
  simp only at hs ht ⊢
  unfold secondO
  cases hok : Ol.ok ⟨v, k, a, b, n, s, t⟩ with
  | false =>
    rw [if_neg (by decide)]
    exact refSecond_no v k a b n s t w hs ht hok
  | true =>
    rw [if_pos rfl]
    have f := olF hok
    by_cases h1 : v = 1
    · rw [if_pos h1]
      subst h1
      have hk : 1 ≤ k ∧ k ≤ 5 := by
        have h6 := hok
        unfold Ol.ok okN okT at h6
        simp only [Bool.and_eq_true] at h6
        obtain ⟨_, _, _, _, _, h7⟩ := h6
        unfold sI i1 at h7
        simpa using h7
      unfold oneO
      simp only
      rcases (by omega : k = 1 ∨ k = 2 ∨ k = 3 ∨ k = 4 ∨ k = 5) with rfl | rfl | rfl | rfl | rfl
      · rw [if_pos rfl]; exact refSecond_k1 a b n s t w hs ht hok
      · rw [if_neg (by decide), if_pos rfl]; exact refSecond_k2 a b n s t w hs ht hok
      · rw [if_neg (by decide), if_neg (by decide), if_pos rfl]; exact refSecond_k3 a b n s t w hs ht hok
      · rw [if_neg (by decide), if_neg (by decide), if_neg (by decide), if_pos rfl]
        by_cases hn : n < 0 ∨ 3 < n
        · rw [if_pos hn]; exact refSecond_k4_no a b n s t w hs ht hok hn
        · rw [if_neg hn]
          rcases (by omega : n = 0 ∨ n = 1 ∨ n = 2 ∨ n = 3) with rfl | rfl | rfl | rfl
          · exact refSecond_k4_0 a b s t w hs ht hok
          · exact refSecond_k4_1 a b s t w hs ht hok
          · exact refSecond_k4_2 a b s t w hs ht hok
          · exact refSecond_k4_3 a b s t w hs ht hok
      · rw [if_neg (by decide), if_neg (by decide), if_neg (by decide), if_neg (by decide)]
        cases hw : wordsL s with
        | nil => exact refSecond_k5_no a b n s t w hs ht hok hw
        | cons x xs => exact refSecond_k5_yes a b n s t w hs ht hok x xs hw
    · rw [if_neg h1]
      obtain rfl : v = 2 := by have := f.v; simp only at this; omega
      exact refSecond_two k a b n s t w hs ht hok
set_option maxHeartbeats 4000000 in
theorem refThird_0 (v k a b n : Int) (s t : List UInt8) (w : World) (hs : s.length ≤ 10000) (ht : t.length ≤ 10000)   (hL : secondO ⟨v, k, a, b, n, s, t⟩ = []) : Calls Tryz.prog 65 #[.agg (OC v k a b n s t)] w fun e w' => ∃ m, m = (thirdO ⟨v, k, a, b, n, s, t⟩).length ∧ RetEv w m (evsC (thirdO ⟨v, k, a, b, n, s, t⟩)) e w' := by
  have HO := Lib.hid (fun W => refSecond_any ⟨v, k, a, b, n, s, t⟩ W hs ht)
  have B0 := bel_alloc (Below.refl w.heap.size w) (.cells (OC v k a b n s t) 90)
  unfold thirdO
  rw [hL] at HO ⊢
  simp only [OC, List.length_cons, List.length_nil, Nat.zero_add, List.flatMap_cons, List.flatMap_nil, List.append_nil] at *
  clear hL
  go_enter Tryz.func65, Tryz.ntmps65
  go_wp2_with fail
  (with_reducible refine (HO.out _).mono ?_)
  rintro e w1 ⟨A1, c1, rfl, ho1, hb1⟩
  have B1 := bel_step B0 hb1
  have hsz := B1.size
  have hR1 := Rw.of_own ho1
  clear ho1 hb1
  go_wp2_with fail
  go_loopw [4, 5] (fun y x wr => Below w1.heap.size w1 wr ∧ ∃ (A : Option Addr) (m c : Nat) (acc : List Ev), y = .slice A m c ∧ m = acc.length ∧ wr.ownsRow w1.heap.size 50 7 (.slice A m c) m (evsC acc) ∧ ((x = .int .i64 0 ∧ acc = []))) (fun _ x _ => (0 - intOf x).toNat)
  case atStart => exact ⟨Below.refl _ _, none, 0, 0, [], rfl, rfl, World.ownsRow_nil _ _ _ _, ⟨rfl, rfl⟩⟩
  case round =>
    obtain ⟨hbw, A, m, c, acc, rfl, hm, hrow, hst⟩ := hrel
    have hsw := hbw.size
    have hm2 : m ≤ 2 := by
      rw [hm]
      obtain ⟨_, rfl⟩ := hst
      all_goals first | (simp; done) | (simp only [thirdX]; (repeat' split) <;> simp)
    have HM := Lib.hid hm
    clear hm
    obtain ⟨rfl, hacc⟩ := hst
    have HA := Lib.hid hacc
    clear hacc
    go_wp2_with fail
    go_ret
    exact ⟨m, by rw [HM.out, HA.out]; rfl, RetRow.of rfl (own_mono (HA.out ▸ hrow) (by omega)) (bel_step B1 hbw)⟩
set_option maxHeartbeats 4000000 in
theorem refThird_1 (v k a b n : Int) (s t : List UInt8) (w : World) (hs : s.length ≤ 10000) (ht : t.length ≤ 10000) (pv pk pa pb pn : Int) (ps pt : List UInt8) (hps : ps.length ≤ 10000) (hpt : pt.length ≤ 10000) (hL : secondO ⟨v, k, a, b, n, s, t⟩ = [⟨pv, pk, pa, pb, pn, ps, pt⟩]) : Calls Tryz.prog 65 #[.agg (OC v k a b n s t)] w fun e w' => ∃ m, m = (thirdO ⟨v, k, a, b, n, s, t⟩).length ∧ RetEv w m (evsC (thirdO ⟨v, k, a, b, n, s, t⟩)) e w' := by
  have HO := Lib.hid (fun W => refSecond_any ⟨v, k, a, b, n, s, t⟩ W hs ht)
  have B0 := bel_alloc (Below.refl w.heap.size w) (.cells (OC v k a b n s t) 90)
  unfold thirdO
  rw [hL] at HO ⊢
  simp only [OC, List.length_cons, List.length_nil, Nat.zero_add, List.flatMap_cons, List.flatMap_nil, List.append_nil] at *
  clear hL
  go_enter Tryz.func65, Tryz.ntmps65
  go_wp2_with fail
  (with_reducible refine (HO.out _).mono ?_)
  rintro e w1 ⟨A1, c1, rfl, ho1, hb1⟩
  have B1 := bel_step B0 hb1
  have hsz := B1.size
  have hR1 := Rw.of_own ho1
  clear ho1 hb1
  rcases hR1 with h0 | ⟨g, rfl, hg, hcl⟩
  · omega
  have x0_0 : ∀ W, Below w1.heap.size w1 W → W.cell? ⟨g, 0, none⟩ = some (.int .i64 pv) := fun W hW => (hW.cell (p := ⟨g, 0, none⟩) hg).trans (hcl 0 _ rfl)
  have x0_1 : ∀ W, Below w1.heap.size w1 W → W.cell? ⟨g, 1, none⟩ = some (.int .i64 pk) := fun W hW => (hW.cell (p := ⟨g, 1, none⟩) hg).trans (hcl 1 _ rfl)
  have x0_2 : ∀ W, Below w1.heap.size w1 W → W.cell? ⟨g, 2, none⟩ = some (.int .i64 pa) := fun W hW => (hW.cell (p := ⟨g, 2, none⟩) hg).trans (hcl 2 _ rfl)
  have x0_3 : ∀ W, Below w1.heap.size w1 W → W.cell? ⟨g, 3, none⟩ = some (.int .i64 pb) := fun W hW => (hW.cell (p := ⟨g, 3, none⟩) hg).trans (hcl 3 _ rfl)
  have x0_4 : ∀ W, Below w1.heap.size w1 W → W.cell? ⟨g, 4, none⟩ = some (.int .i64 pn) := fun W hW => (hW.cell (p := ⟨g, 4, none⟩) hg).trans (hcl 4 _ rfl)
  have x0_5 : ∀ W, Below w1.heap.size w1 W → W.cell? ⟨g, 5, none⟩ = some (.string ⟨ps.toArray⟩) := fun W hW => (hW.cell (p := ⟨g, 5, none⟩) hg).trans (hcl 5 _ rfl)
  have x0_6 : ∀ W, Below w1.heap.size w1 W → W.cell? ⟨g, 6, none⟩ = some (.string ⟨pt.toArray⟩) := fun W hW => (hW.cell (p := ⟨g, 6, none⟩) hg).trans (hcl 6 _ rfl)
  clear hcl
  go_wp2_with fail
  go_loopw [4, 5] (fun y x wr => Below w1.heap.size w1 wr ∧ ∃ (A : Option Addr) (m c : Nat) (acc : List Ev), y = .slice A m c ∧ m = acc.length ∧ wr.ownsRow w1.heap.size 50 7 (.slice A m c) m (evsC acc) ∧ ((x = .int .i64 0 ∧ acc = []) ∨ (x = .int .i64 1 ∧ acc = thirdX ⟨pv, pk, pa, pb, pn, ps, pt⟩))) (fun _ x _ => (1 - intOf x).toNat)
  case atStart => exact ⟨Below.refl _ _, none, 0, 0, [], rfl, rfl, World.ownsRow_nil _ _ _ _, .inl ⟨rfl, rfl⟩⟩
  case round =>
    obtain ⟨hbw, A, m, c, acc, rfl, hm, hrow, hst⟩ := hrel
    have hsw := hbw.size
    have hm2 : m ≤ 2 := by
      rw [hm]
      rcases hst with ⟨_, rfl⟩ | ⟨_, rfl⟩
      all_goals first | (simp; done) | (simp only [thirdX]; (repeat' split) <;> simp)
    have HM := Lib.hid hm
    clear hm
    rcases hst with ⟨rfl, hacc⟩ | ⟨rfl, hacc⟩
    · have HA := Lib.hid hacc
      clear hacc
      have HX := Lib.hid (fun W => refCheck_any pk pa pb pn ps pt [] W (by omega) (by omega) (by simp))
      go_wp2_with fail
      refine wp_region_seqD (Below wr.heap.size) (Below.refl wr.heap.size) (fun _ _ _ h1 h2 => h1.trans h2) (by kernel_rfl) [(0, true), (1, true), (2, true), (3, true), (4, true), (5, true), (6, true), (7, true), (8, true), (9, true), (10, true), (11, true), (12, true), (13, true), (14, true), (15, true), (16, true), (17, true), (18, true), (19, true), (20, true), (21, true), (22, true), (23, true), (24, true), (25, true), (26, true), (27, true), (28, true), (29, true), (30, true), (31, false), (32, false)] (by kernel_rfl) rfl (by kernel_rfl) ?_
      obtain ⟨Bw, hBw⟩ : ∃ Bw, Bw = wr.heap.size := ⟨_, rfl⟩
      have B2 := hbw.drew
      have hr2 : wr.drew.ownsRow w1.heap.size 50 7 (.slice A m c) m (evsC acc) := hrow
      have hsd : wr.drew.heap.size = Bw := hBw.symm
      rw [← hBw]
      generalize wr.drew = w2 at *
      have a0 : ∀ W, Below Bw w2 W → W.cell? ⟨g, 0, none⟩ = some (.int .i64 pv) := fun W hW => x0_0 W (B2.trans (hW.mono (by omega)))
      have a1 : ∀ W, Below Bw w2 W → W.cell? ⟨g, 1, none⟩ = some (.int .i64 pk) := fun W hW => x0_1 W (B2.trans (hW.mono (by omega)))
      have a2 : ∀ W, Below Bw w2 W → W.cell? ⟨g, 2, none⟩ = some (.int .i64 pa) := fun W hW => x0_2 W (B2.trans (hW.mono (by omega)))
      have a3 : ∀ W, Below Bw w2 W → W.cell? ⟨g, 3, none⟩ = some (.int .i64 pb) := fun W hW => x0_3 W (B2.trans (hW.mono (by omega)))
      have a4 : ∀ W, Below Bw w2 W → W.cell? ⟨g, 4, none⟩ = some (.int .i64 pn) := fun W hW => x0_4 W (B2.trans (hW.mono (by omega)))
      have a5 : ∀ W, Below Bw w2 W → W.cell? ⟨g, 5, none⟩ = some (.string ⟨ps.toArray⟩) := fun W hW => x0_5 W (B2.trans (hW.mono (by omega)))
      have a6 : ∀ W, Below Bw w2 W → W.cell? ⟨g, 6, none⟩ = some (.string ⟨pt.toArray⟩) := fun W hW => x0_6 W (B2.trans (hW.mono (by omega)))
      clear hrow hbw hBw x0_0 x0_1 x0_2 x0_3 x0_4 x0_5 x0_6
      iterate 31 (refine wpSeqR_take (o := ⟨_, _, _, _, _, _⟩) (v := ?_) rfl rfl ?_ ?_; rotate_left; (focus (intro W hW; go_simp; first | done | with_reducible rfl)); simp only [Act.put, List.setIfInBounds_toArray, List.set_cons_zero, List.set_cons_succ])
      clear a0 a1 a2 a3 a4 a5 a6
      refine wpSeqR_exec (o := ⟨_, _, _, _, _, _⟩) rfl rfl (fun K hK => ?_)
      go_simp
      refine hK _ _ ((Below.refl _ _).alloc (by omega) _) ?_
      clear hK K
      refine wpSeqR_exec (o := ⟨_, _, _, _, _, _⟩) rfl rfl (fun K hK => ?_)
      go_simp
      refine hK _ _ (below_realloc _ _ (by omega)) ?_
      clear hK K
      refine wpSeqR_nil ?_
      subst hsd
      have he2 := Blk.new w2 50 #[.int .i64 pk, .int .i64 pa, .int .i64 pb, .int .i64 pn, .string ⟨ps.toArray⟩, .string ⟨pt.toArray⟩, .string ⟨#[]⟩]
      have B3 := bel_alloc B2 (.cells #[.int .i64 pk, .int .i64 pa, .int .i64 pb, .int .i64 pn, .string ⟨ps.toArray⟩, .string ⟨pt.toArray⟩, .string ⟨#[]⟩] 50)
      have hr3 := own_below hr2 (bel_alloc (Below.refl w2.heap.size w2) (.cells #[.int .i64 pk, .int .i64 pa, .int .i64 pb, .int .i64 pn, .string ⟨ps.toArray⟩, .string ⟨pt.toArray⟩, .string ⟨#[]⟩] 50))
      clear B2 hr2
      cases hok : evOK pk pa pb pn ps pt [] with
      | false =>
        rw [hok] at HX
        have HOK := Lib.hid hok
        clear hok
        simp only [evV] at HX
        go_wp2_with fail
        (with_reducible refine (HX.out _).mono ?_)
        rintro e w4 ⟨rfl, hb4⟩
        have B4 := bel_step B3 hb4
        have hr4 := own_below hr3 hb4
        go_wp2_with fail
        go_roundw
        case rel => exact ⟨B4, A, m, c, acc, rfl, HM.out, hr4, .inr (⟨rfl, by rw [HA.out]; simp [thirdX, HOK.out]⟩)⟩
        case measure => simp [intOf]
      | true =>
        rw [hok] at HX
        have HOK := Lib.hid hok
        clear hok
        simp only [evV] at HX
        go_wp2_with fail
        (with_reducible refine (HX.out _).mono ?_)
        rintro e w4 ⟨rfl, hb4⟩
        have B4 := bel_step B3 hb4
        have hr4 := own_below hr3 hb4
        have he4 := he2.below hb4 he2.lt
        have y0 := he4.cell 0
        have y1 := he4.cell 1
        have y2 := he4.cell 2
        have y3 := he4.cell 3
        have y4 := he4.cell 4
        have y5 := he4.cell 5
        have y6 := he4.cell 6
        try simp only [evV] at y0 y1 y2 y3 y4 y5 y6
        simp at y0 y1 y2 y3 y4 y5 y6
        have hs4 := B4.size
        have E1 := bel_alloc (Below.refl w4.heap.size w4) (.cells #[.int .i64 pk, .int .i64 pa, .int .i64 pb, .int .i64 pn, .string ⟨ps.toArray⟩, .string ⟨pt.toArray⟩, .string ⟨#[]⟩] 50)
        have hr5 := own_below hr4 E1
        have hR := lit_reads w4 50 #[.int .i64 pk, .int .i64 pa, .int .i64 pb, .int .i64 pn, .string ⟨ps.toArray⟩, .string ⟨pt.toArray⟩, .string ⟨#[]⟩] 7 1 w4.heap.size rfl rfl
        have hone := evC_one ⟨pk, pa, pb, pn, ps, pt, []⟩
        clear hr3 hr4 he2 he4
        go_wp2_with (at_builtin; refine wpList_app _ iEvs rfl rfl rfl hr5 rfl hR hone (by unfold maxLen; omega) (by omega) (by simp; omega) ?_; intro A' c' w' h2 h3 _)
        have B7 : Below w1.heap.size w1 w' := (bel_step B4 E1).trans ((Below.refl _ _).grown h3 (by simp; omega) (fun k hk => (World.ownsRow.lt hr5 k hk).1))
        go_roundw
        case rel => exact ⟨B7, A', m + 1, c', acc ++ [⟨pk, pa, pb, pn, ps, pt, []⟩], rfl, by rw [HM.out]; simp, by rw [evsC_snoc]; exact h2, .inr (⟨rfl, by rw [HA.out]; simp [thirdX, evOf, HOK.out]⟩)⟩
        case measure => simp [intOf]
    · have HA := Lib.hid hacc
      clear hacc
      go_wp2_with fail
      go_ret
      exact ⟨m, by rw [HM.out, HA.out], RetRow.of rfl (own_mono (HA.out ▸ hrow) (by omega)) (bel_step B1 hbw)⟩
set_option maxHeartbeats 4000000 in
theorem refThird_2 (v k a b n : Int) (s t : List UInt8) (w : World) (hs : s.length ≤ 10000) (ht : t.length ≤ 10000) (pv pk pa pb pn : Int) (ps pt : List UInt8) (qv qk qa qb qn : Int) (qs qt : List UInt8) (hps : ps.length ≤ 10000) (hpt : pt.length ≤ 10000) (hqs : qs.length ≤ 10000) (hqt : qt.length ≤ 10000) (hL : secondO ⟨v, k, a, b, n, s, t⟩ = [⟨pv, pk, pa, pb, pn, ps, pt⟩, ⟨qv, qk, qa, qb, qn, qs, qt⟩]) : Calls Tryz.prog 65 #[.agg (OC v k a b n s t)] w fun e w' => ∃ m, m = (thirdO ⟨v, k, a, b, n, s, t⟩).length ∧ RetEv w m (evsC (thirdO ⟨v, k, a, b, n, s, t⟩)) e w' := by
  have HO := Lib.hid (fun W => refSecond_any ⟨v, k, a, b, n, s, t⟩ W hs ht)
  have B0 := bel_alloc (Below.refl w.heap.size w) (.cells (OC v k a b n s t) 90)
  unfold thirdO
  rw [hL] at HO ⊢
  simp only [OC, List.length_cons, List.length_nil, Nat.zero_add, List.flatMap_cons, List.flatMap_nil, List.append_nil] at *
  clear hL
  go_enter Tryz.func65, Tryz.ntmps65
  go_wp2_with fail
  (with_reducible refine (HO.out _).mono ?_)
  rintro e w1 ⟨A1, c1, rfl, ho1, hb1⟩
  have B1 := bel_step B0 hb1
  have hsz := B1.size
  have hR1 := Rw.of_own ho1
  clear ho1 hb1
  rcases hR1 with h0 | ⟨g, rfl, hg, hcl⟩
  · omega
  have x0_0 : ∀ W, Below w1.heap.size w1 W → W.cell? ⟨g, 0, none⟩ = some (.int .i64 pv) := fun W hW => (hW.cell (p := ⟨g, 0, none⟩) hg).trans (hcl 0 _ rfl)
  have x0_1 : ∀ W, Below w1.heap.size w1 W → W.cell? ⟨g, 1, none⟩ = some (.int .i64 pk) := fun W hW => (hW.cell (p := ⟨g, 1, none⟩) hg).trans (hcl 1 _ rfl)
  have x0_2 : ∀ W, Below w1.heap.size w1 W → W.cell? ⟨g, 2, none⟩ = some (.int .i64 pa) := fun W hW => (hW.cell (p := ⟨g, 2, none⟩) hg).trans (hcl 2 _ rfl)
  have x0_3 : ∀ W, Below w1.heap.size w1 W → W.cell? ⟨g, 3, none⟩ = some (.int .i64 pb) := fun W hW => (hW.cell (p := ⟨g, 3, none⟩) hg).trans (hcl 3 _ rfl)
  have x0_4 : ∀ W, Below w1.heap.size w1 W → W.cell? ⟨g, 4, none⟩ = some (.int .i64 pn) := fun W hW => (hW.cell (p := ⟨g, 4, none⟩) hg).trans (hcl 4 _ rfl)
  have x0_5 : ∀ W, Below w1.heap.size w1 W → W.cell? ⟨g, 5, none⟩ = some (.string ⟨ps.toArray⟩) := fun W hW => (hW.cell (p := ⟨g, 5, none⟩) hg).trans (hcl 5 _ rfl)
  have x0_6 : ∀ W, Below w1.heap.size w1 W → W.cell? ⟨g, 6, none⟩ = some (.string ⟨pt.toArray⟩) := fun W hW => (hW.cell (p := ⟨g, 6, none⟩) hg).trans (hcl 6 _ rfl)
  have x1_0 : ∀ W, Below w1.heap.size w1 W → W.cell? ⟨g, 7, none⟩ = some (.int .i64 qv) := fun W hW => (hW.cell (p := ⟨g, 7, none⟩) hg).trans (hcl 7 _ rfl)
  have x1_1 : ∀ W, Below w1.heap.size w1 W → W.cell? ⟨g, 8, none⟩ = some (.int .i64 qk) := fun W hW => (hW.cell (p := ⟨g, 8, none⟩) hg).trans (hcl 8 _ rfl)
  have x1_2 : ∀ W, Below w1.heap.size w1 W → W.cell? ⟨g, 9, none⟩ = some (.int .i64 qa) := fun W hW => (hW.cell (p := ⟨g, 9, none⟩) hg).trans (hcl 9 _ rfl)
  have x1_3 : ∀ W, Below w1.heap.size w1 W → W.cell? ⟨g, 10, none⟩ = some (.int .i64 qb) := fun W hW => (hW.cell (p := ⟨g, 10, none⟩) hg).trans (hcl 10 _ rfl)
  have x1_4 : ∀ W, Below w1.heap.size w1 W → W.cell? ⟨g, 11, none⟩ = some (.int .i64 qn) := fun W hW => (hW.cell (p := ⟨g, 11, none⟩) hg).trans (hcl 11 _ rfl)
  have x1_5 : ∀ W, Below w1.heap.size w1 W → W.cell? ⟨g, 12, none⟩ = some (.string ⟨qs.toArray⟩) := fun W hW => (hW.cell (p := ⟨g, 12, none⟩) hg).trans (hcl 12 _ rfl)
  have x1_6 : ∀ W, Below w1.heap.size w1 W → W.cell? ⟨g, 13, none⟩ = some (.string ⟨qt.toArray⟩) := fun W hW => (hW.cell (p := ⟨g, 13, none⟩) hg).trans (hcl 13 _ rfl)
  clear hcl
  go_wp2_with fail
  go_loopw [4, 5] (fun y x wr => Below w1.heap.size w1 wr ∧ ∃ (A : Option Addr) (m c : Nat) (acc : List Ev), y = .slice A m c ∧ m = acc.length ∧ wr.ownsRow w1.heap.size 50 7 (.slice A m c) m (evsC acc) ∧ ((x = .int .i64 0 ∧ acc = []) ∨ (x = .int .i64 1 ∧ acc = thirdX ⟨pv, pk, pa, pb, pn, ps, pt⟩) ∨ (x = .int .i64 2 ∧ acc = thirdX ⟨pv, pk, pa, pb, pn, ps, pt⟩ ++ thirdX ⟨qv, qk, qa, qb, qn, qs, qt⟩))) (fun _ x _ => (2 - intOf x).toNat)
  case atStart => exact ⟨Below.refl _ _, none, 0, 0, [], rfl, rfl, World.ownsRow_nil _ _ _ _, .inl ⟨rfl, rfl⟩⟩
  case round =>
    obtain ⟨hbw, A, m, c, acc, rfl, hm, hrow, hst⟩ := hrel
    have hsw := hbw.size
    have hm2 : m ≤ 2 := by
      rw [hm]
      rcases hst with ⟨_, rfl⟩ | ⟨_, rfl⟩ | ⟨_, rfl⟩
      all_goals first | (simp; done) | (simp only [thirdX]; (repeat' split) <;> simp)
    have HM := Lib.hid hm
    clear hm
    rcases hst with ⟨rfl, hacc⟩ | ⟨rfl, hacc⟩ | ⟨rfl, hacc⟩
    · have HA := Lib.hid hacc
      clear hacc
      have HX := Lib.hid (fun W => refCheck_any pk pa pb pn ps pt [] W (by omega) (by omega) (by simp))
      go_wp2_with fail
      refine wp_region_seqD (Below wr.heap.size) (Below.refl wr.heap.size) (fun _ _ _ h1 h2 => h1.trans h2) (by kernel_rfl) [(0, true), (1, true), (2, true), (3, true), (4, true), (5, true), (6, true), (7, true), (8, true), (9, true), (10, true), (11, true), (12, true), (13, true), (14, true), (15, true), (16, true), (17, true), (18, true), (19, true), (20, true), (21, true), (22, true), (23, true), (24, true), (25, true), (26, true), (27, true), (28, true), (29, true), (30, true), (31, false), (32, false)] (by kernel_rfl) rfl (by kernel_rfl) ?_
      obtain ⟨Bw, hBw⟩ : ∃ Bw, Bw = wr.heap.size := ⟨_, rfl⟩
      have B2 := hbw.drew
      have hr2 : wr.drew.ownsRow w1.heap.size 50 7 (.slice A m c) m (evsC acc) := hrow
      have hsd : wr.drew.heap.size = Bw := hBw.symm
      rw [← hBw]
      generalize wr.drew = w2 at *
      have a0 : ∀ W, Below Bw w2 W → W.cell? ⟨g, 0, none⟩ = some (.int .i64 pv) := fun W hW => x0_0 W (B2.trans (hW.mono (by omega)))
      have a1 : ∀ W, Below Bw w2 W → W.cell? ⟨g, 1, none⟩ = some (.int .i64 pk) := fun W hW => x0_1 W (B2.trans (hW.mono (by omega)))
      have a2 : ∀ W, Below Bw w2 W → W.cell? ⟨g, 2, none⟩ = some (.int .i64 pa) := fun W hW => x0_2 W (B2.trans (hW.mono (by omega)))
      have a3 : ∀ W, Below Bw w2 W → W.cell? ⟨g, 3, none⟩ = some (.int .i64 pb) := fun W hW => x0_3 W (B2.trans (hW.mono (by omega)))
      have a4 : ∀ W, Below Bw w2 W → W.cell? ⟨g, 4, none⟩ = some (.int .i64 pn) := fun W hW => x0_4 W (B2.trans (hW.mono (by omega)))
      have a5 : ∀ W, Below Bw w2 W → W.cell? ⟨g, 5, none⟩ = some (.string ⟨ps.toArray⟩) := fun W hW => x0_5 W (B2.trans (hW.mono (by omega)))
      have a6 : ∀ W, Below Bw w2 W → W.cell? ⟨g, 6, none⟩ = some (.string ⟨pt.toArray⟩) := fun W hW => x0_6 W (B2.trans (hW.mono (by omega)))
      clear hrow hbw hBw x0_0 x0_1 x0_2 x0_3 x0_4 x0_5 x0_6 x1_0 x1_1 x1_2 x1_3 x1_4 x1_5 x1_6
      iterate 31 (refine wpSeqR_take (o := ⟨_, _, _, _, _, _⟩) (v := ?_) rfl rfl ?_ ?_; rotate_left; (focus (intro W hW; go_simp; first | done | with_reducible rfl)); simp only [Act.put, List.setIfInBounds_toArray, List.set_cons_zero, List.set_cons_succ])
      clear a0 a1 a2 a3 a4 a5 a6
      refine wpSeqR_exec (o := ⟨_, _, _, _, _, _⟩) rfl rfl (fun K hK => ?_)
      go_simp
      refine hK _ _ ((Below.refl _ _).alloc (by omega) _) ?_
      clear hK K
      refine wpSeqR_exec (o := ⟨_, _, _, _, _, _⟩) rfl rfl (fun K hK => ?_)
      go_simp
      refine hK _ _ (below_realloc _ _ (by omega)) ?_
      clear hK K
      refine wpSeqR_nil ?_
      subst hsd
      have he2 := Blk.new w2 50 #[.int .i64 pk, .int .i64 pa, .int .i64 pb, .int .i64 pn, .string ⟨ps.toArray⟩, .string ⟨pt.toArray⟩, .string ⟨#[]⟩]
      have B3 := bel_alloc B2 (.cells #[.int .i64 pk, .int .i64 pa, .int .i64 pb, .int .i64 pn, .string ⟨ps.toArray⟩, .string ⟨pt.toArray⟩, .string ⟨#[]⟩] 50)
      have hr3 := own_below hr2 (bel_alloc (Below.refl w2.heap.size w2) (.cells #[.int .i64 pk, .int .i64 pa, .int .i64 pb, .int .i64 pn, .string ⟨ps.toArray⟩, .string ⟨pt.toArray⟩, .string ⟨#[]⟩] 50))
      clear B2 hr2
      cases hok : evOK pk pa pb pn ps pt [] with
      | false =>
        rw [hok] at HX
        have HOK := Lib.hid hok
        clear hok
        simp only [evV] at HX
        go_wp2_with fail
        (with_reducible refine (HX.out _).mono ?_)
        rintro e w4 ⟨rfl, hb4⟩
        have B4 := bel_step B3 hb4
        have hr4 := own_below hr3 hb4
        go_wp2_with fail
        go_roundw
        case rel => exact ⟨B4, A, m, c, acc, rfl, HM.out, hr4, .inr (.inl ⟨rfl, by rw [HA.out]; simp [thirdX, HOK.out]⟩)⟩
        case measure => simp [intOf]
      | true =>
        rw [hok] at HX
        have HOK := Lib.hid hok
        clear hok
        simp only [evV] at HX
        go_wp2_with fail
        (with_reducible refine (HX.out _).mono ?_)
        rintro e w4 ⟨rfl, hb4⟩
        have B4 := bel_step B3 hb4
        have hr4 := own_below hr3 hb4
        have he4 := he2.below hb4 he2.lt
        have y0 := he4.cell 0
        have y1 := he4.cell 1
        have y2 := he4.cell 2
        have y3 := he4.cell 3
        have y4 := he4.cell 4
        have y5 := he4.cell 5
        have y6 := he4.cell 6
        try simp only [evV] at y0 y1 y2 y3 y4 y5 y6
        simp at y0 y1 y2 y3 y4 y5 y6
        have hs4 := B4.size
        have E1 := bel_alloc (Below.refl w4.heap.size w4) (.cells #[.int .i64 pk, .int .i64 pa, .int .i64 pb, .int .i64 pn, .string ⟨ps.toArray⟩, .string ⟨pt.toArray⟩, .string ⟨#[]⟩] 50)
        have hr5 := own_below hr4 E1
        have hR := lit_reads w4 50 #[.int .i64 pk, .int .i64 pa, .int .i64 pb, .int .i64 pn, .string ⟨ps.toArray⟩, .string ⟨pt.toArray⟩, .string ⟨#[]⟩] 7 1 w4.heap.size rfl rfl
        have hone := evC_one ⟨pk, pa, pb, pn, ps, pt, []⟩
        clear hr3 hr4 he2 he4
        go_wp2_with (at_builtin; refine wpList_app _ iEvs rfl rfl rfl hr5 rfl hR hone (by unfold maxLen; omega) (by omega) (by simp; omega) ?_; intro A' c' w' h2 h3 _)
        have B7 : Below w1.heap.size w1 w' := (bel_step B4 E1).trans ((Below.refl _ _).grown h3 (by simp; omega) (fun k hk => (World.ownsRow.lt hr5 k hk).1))
        go_roundw
        case rel => exact ⟨B7, A', m + 1, c', acc ++ [⟨pk, pa, pb, pn, ps, pt, []⟩], rfl, by rw [HM.out]; simp, by rw [evsC_snoc]; exact h2, .inr (.inl ⟨rfl, by rw [HA.out]; simp [thirdX, evOf, HOK.out]⟩)⟩
        case measure => simp [intOf]
    · have HA := Lib.hid hacc
      clear hacc
      have HX := Lib.hid (fun W => refCheck_any qk qa qb qn qs qt [] W (by omega) (by omega) (by simp))
      go_wp2_with fail
      refine wp_region_seqD (Below wr.heap.size) (Below.refl wr.heap.size) (fun _ _ _ h1 h2 => h1.trans h2) (by kernel_rfl) [(0, true), (1, true), (2, true), (3, true), (4, true), (5, true), (6, true), (7, true), (8, true), (9, true), (10, true), (11, true), (12, true), (13, true), (14, true), (15, true), (16, true), (17, true), (18, true), (19, true), (20, true), (21, true), (22, true), (23, true), (24, true), (25, true), (26, true), (27, true), (28, true), (29, true), (30, true), (31, false), (32, false)] (by kernel_rfl) rfl (by kernel_rfl) ?_
      obtain ⟨Bw, hBw⟩ : ∃ Bw, Bw = wr.heap.size := ⟨_, rfl⟩
      have B2 := hbw.drew
      have hr2 : wr.drew.ownsRow w1.heap.size 50 7 (.slice A m c) m (evsC acc) := hrow
      have hsd : wr.drew.heap.size = Bw := hBw.symm
      rw [← hBw]
      generalize wr.drew = w2 at *
      have a0 : ∀ W, Below Bw w2 W → W.cell? ⟨g, 7, none⟩ = some (.int .i64 qv) := fun W hW => x1_0 W (B2.trans (hW.mono (by omega)))
      have a1 : ∀ W, Below Bw w2 W → W.cell? ⟨g, 8, none⟩ = some (.int .i64 qk) := fun W hW => x1_1 W (B2.trans (hW.mono (by omega)))
      have a2 : ∀ W, Below Bw w2 W → W.cell? ⟨g, 9, none⟩ = some (.int .i64 qa) := fun W hW => x1_2 W (B2.trans (hW.mono (by omega)))
      have a3 : ∀ W, Below Bw w2 W → W.cell? ⟨g, 10, none⟩ = some (.int .i64 qb) := fun W hW => x1_3 W (B2.trans (hW.mono (by omega)))
      have a4 : ∀ W, Below Bw w2 W → W.cell? ⟨g, 11, none⟩ = some (.int .i64 qn) := fun W hW => x1_4 W (B2.trans (hW.mono (by omega)))
      have a5 : ∀ W, Below Bw w2 W → W.cell? ⟨g, 12, none⟩ = some (.string ⟨qs.toArray⟩) := fun W hW => x1_5 W (B2.trans (hW.mono (by omega)))
      have a6 : ∀ W, Below Bw w2 W → W.cell? ⟨g, 13, none⟩ = some (.string ⟨qt.toArray⟩) := fun W hW => x1_6 W (B2.trans (hW.mono (by omega)))
      clear hrow hbw hBw x0_0 x0_1 x0_2 x0_3 x0_4 x0_5 x0_6 x1_0 x1_1 x1_2 x1_3 x1_4 x1_5 x1_6
      iterate 31 (refine wpSeqR_take (o := ⟨_, _, _, _, _, _⟩) (v := ?_) rfl rfl ?_ ?_; rotate_left; (focus (intro W hW; go_simp; first | done | with_reducible rfl)); simp only [Act.put, List.setIfInBounds_toArray, List.set_cons_zero, List.set_cons_succ])
      clear a0 a1 a2 a3 a4 a5 a6
      refine wpSeqR_exec (o := ⟨_, _, _, _, _, _⟩) rfl rfl (fun K hK => ?_)
      go_simp
      refine hK _ _ ((Below.refl _ _).alloc (by omega) _) ?_
      clear hK K
      refine wpSeqR_exec (o := ⟨_, _, _, _, _, _⟩) rfl rfl (fun K hK => ?_)
      go_simp
      refine hK _ _ (below_realloc _ _ (by omega)) ?_
      clear hK K
      refine wpSeqR_nil ?_
      subst hsd
      have he2 := Blk.new w2 50 #[.int .i64 qk, .int .i64 qa, .int .i64 qb, .int .i64 qn, .string ⟨qs.toArray⟩, .string ⟨qt.toArray⟩, .string ⟨#[]⟩]
      have B3 := bel_alloc B2 (.cells #[.int .i64 qk, .int .i64 qa, .int .i64 qb, .int .i64 qn, .string ⟨qs.toArray⟩, .string ⟨qt.toArray⟩, .string ⟨#[]⟩] 50)
      have hr3 := own_below hr2 (bel_alloc (Below.refl w2.heap.size w2) (.cells #[.int .i64 qk, .int .i64 qa, .int .i64 qb, .int .i64 qn, .string ⟨qs.toArray⟩, .string ⟨qt.toArray⟩, .string ⟨#[]⟩] 50))
      clear B2 hr2
      cases hok : evOK qk qa qb qn qs qt [] with
      | false =>
        rw [hok] at HX
        have HOK := Lib.hid hok
        clear hok
        simp only [evV] at HX
        go_wp2_with fail
        (with_reducible refine (HX.out _).mono ?_)
        rintro e w4 ⟨rfl, hb4⟩
        have B4 := bel_step B3 hb4
        have hr4 := own_below hr3 hb4
        go_wp2_with fail
        go_roundw
        case rel => exact ⟨B4, A, m, c, acc, rfl, HM.out, hr4, .inr (.inr (⟨rfl, by rw [HA.out]; simp [thirdX, HOK.out]⟩))⟩
        case measure => simp [intOf]
      | true =>
        rw [hok] at HX
        have HOK := Lib.hid hok
        clear hok
        simp only [evV] at HX
        go_wp2_with fail
        (with_reducible refine (HX.out _).mono ?_)
        rintro e w4 ⟨rfl, hb4⟩
        have B4 := bel_step B3 hb4
        have hr4 := own_below hr3 hb4
        have he4 := he2.below hb4 he2.lt
        have y0 := he4.cell 0
        have y1 := he4.cell 1
        have y2 := he4.cell 2
        have y3 := he4.cell 3
        have y4 := he4.cell 4
        have y5 := he4.cell 5
        have y6 := he4.cell 6
        try simp only [evV] at y0 y1 y2 y3 y4 y5 y6
        simp at y0 y1 y2 y3 y4 y5 y6
        have hs4 := B4.size
        have E1 := bel_alloc (Below.refl w4.heap.size w4) (.cells #[.int .i64 qk, .int .i64 qa, .int .i64 qb, .int .i64 qn, .string ⟨qs.toArray⟩, .string ⟨qt.toArray⟩, .string ⟨#[]⟩] 50)
        have hr5 := own_below hr4 E1
        have hR := lit_reads w4 50 #[.int .i64 qk, .int .i64 qa, .int .i64 qb, .int .i64 qn, .string ⟨qs.toArray⟩, .string ⟨qt.toArray⟩, .string ⟨#[]⟩] 7 1 w4.heap.size rfl rfl
        have hone := evC_one ⟨qk, qa, qb, qn, qs, qt, []⟩
        clear hr3 hr4 he2 he4
        go_wp2_with (at_builtin; refine wpList_app _ iEvs rfl rfl rfl hr5 rfl hR hone (by unfold maxLen; omega) (by omega) (by simp; omega) ?_; intro A' c' w' h2 h3 _)
        have B7 : Below w1.heap.size w1 w' := (bel_step B4 E1).trans ((Below.refl _ _).grown h3 (by simp; omega) (fun k hk => (World.ownsRow.lt hr5 k hk).1))
        go_roundw
        case rel => exact ⟨B7, A', m + 1, c', acc ++ [⟨qk, qa, qb, qn, qs, qt, []⟩], rfl, by rw [HM.out]; simp, by rw [evsC_snoc]; exact h2, .inr (.inr (⟨rfl, by rw [HA.out]; simp [thirdX, evOf, HOK.out]⟩))⟩
        case measure => simp [intOf]
    · have HA := Lib.hid hacc
      clear hacc
      go_wp2_with fail
      go_ret
      exact ⟨m, by rw [HM.out, HA.out], RetRow.of rfl (own_mono (HA.out ▸ hrow) (by omega)) (bel_step B1 hbw)⟩
theorem refThird_any (o : Ol) (w : World) (hs : o.s.length ≤ 10000) (ht : o.t.length ≤ 10000) : Calls Tryz.prog 65 #[.agg (OC o.v o.k o.a o.b o.n o.s o.t)] w (RetEv w (thirdO o).length (evsC (thirdO o))) := by
  have hsm := fun x hx => oneO_small (x := x) hs ht hx
  have hl := secondO_len o
  obtain ⟨v, k, a, b, n, s, t⟩ := o
  simp only at hs ht ⊢
  have fin : ∀ e w', (∃ m, m = (thirdO ⟨v, k, a, b, n, s, t⟩).length ∧ RetEv w m (evsC (thirdO ⟨v, k, a, b, n, s, t⟩)) e w') → RetEv w (thirdO ⟨v, k, a, b, n, s, t⟩).length (evsC (thirdO ⟨v, k, a, b, n, s, t⟩)) e w' := by
    rintro e w' ⟨m, rfl, h⟩
    exact h
  cases hL : secondO ⟨v, k, a, b, n, s, t⟩ with
  | nil => exact (refThird_0 v k a b n s t w hs ht hL).mono fin
  | cons p l =>
    have hp := hsm p (by rw [hL]; exact List.mem_cons_self)
    cases l with
    | nil =>
      obtain ⟨pv, pk, pa, pb, pn, ps, pt⟩ := p
      exact (refThird_1 v k a b n s t w hs ht pv pk pa pb pn ps pt hp.1 hp.2 hL).mono fin
    | cons q l2 =>
      have hq := hsm q (by rw [hL]; exact List.mem_cons_of_mem _ List.mem_cons_self)
      cases l2 with
      | nil =>
        obtain ⟨pv, pk, pa, pb, pn, ps, pt⟩ := p
        obtain ⟨qv, qk, qa, qb, qn, qs, qt⟩ := q
        exact (refThird_2 v k a b n s t w hs ht pv pk pa pb pn ps pt qv qk qa qb qn qs qt hp.1 hp.2 hq.1 hq.2 hL).mono fin
      | cons r l3 => rw [hL] at hl; simp at hl
/-! ### the events of bytes of any format -/
def eventsL (l : List UInt8) : Option (List Ev) := match getE l with
  | some e => some [e]
  | none => match getO l with
    | some o => some (thirdO o)
    | none => none
theorem getE_ok {l : List UInt8} {e : Ev} (h : getE l = some e) : e.ok = true := by
  unfold getE at h
  split at h
  · split at h
    · rename_i hh
      injection h with h
      rw [← h]
      exact hh.2.2
    · cases h
  · cases h
theorem getO_ok {l : List UInt8} {o : Ol} (h : getO l = some o) : o.ok = true := by
  unfold getO at h
  split at h
  · rename_i hh
    injection h with h
    rw [← h]
    exact hh.2.2
  · cases h
def RetEvs (w : World) (r : Option (List Ev)) (f : Bool → Value) (e : Ending) (w' : World) : Prop := match r with
  | none => e = .returned (.tuple #[.slice none 0 0, f false]) ∧ Below w.heap.size w w'
  | some l => ∃ A c, e = .returned (.tuple #[.slice A l.length c, f true]) ∧ w'.ownsRow w.heap.size 50 7 (.slice A l.length c) l.length (evsC l) ∧ Below w.heap.size w w'
def okE (b : Bool) : Value := .int .i64 (if b then 0 else 150)
def okB (b : Bool) : Value := .bool b
set_option maxHeartbeats 4000000 in
theorem events_any (A : Option Addr) (nn c : Nat) (l : List UInt8) (w : World) (hn : nn ≤ 20000) (hB : Bs w A nn l) (hN : Nms w) : Calls Tryz.prog 51 #[.slice A nn c] w (RetEvs w (eventsL l) okE) := by
  have HG := Lib.hid (fun W h => get15_any A nn c l W hn h)
  have HO := Lib.hid (fun W h k => oldGet_any A nn c l W hn h k)
  unfold eventsL
  cases hE : getE l with
  | some ev =>
    obtain ⟨k, a, b, n, s, t, u⟩ := ev
    rw [hE] at HG
    simp only [getV, evV] at HG
    clear hE HO
    simp only
    go_enter Tryz.func51, Tryz.ntmps51
    go_wp2_with fail
    (with_reducible refine (HG.out _ hB).mono ?_)
    rintro e w1 ⟨rfl, hb1⟩
    have he1 := Blk.new w1 50 #[.int .i64 k, .int .i64 a, .int .i64 b, .int .i64 n, .string ⟨s.toArray⟩, .string ⟨t.toArray⟩, .string ⟨u.toArray⟩]
    have B1 := bel_alloc hb1 (.cells #[.int .i64 k, .int .i64 a, .int .i64 b, .int .i64 n, .string ⟨s.toArray⟩, .string ⟨t.toArray⟩, .string ⟨u.toArray⟩] 50)
    have hs1 := hb1.size
    go_wp2_with fail
    go_ret2
    have q := own_lit (w1.alloc (.cells #[.int .i64 k, .int .i64 a, .int .i64 b, .int .i64 n, .string ⟨s.toArray⟩, .string ⟨t.toArray⟩, .string ⟨u.toArray⟩] 50)) 50 7 1 (evC ⟨k, a, b, n, s, t, u⟩) #[.int .i64 k, .int .i64 a, .int .i64 b, .int .i64 n, .string ⟨s.toArray⟩, .string ⟨t.toArray⟩, .string ⟨u.toArray⟩] rfl rfl (by omega) B1.size
    exact ⟨_, _, rfl, by simpa [evsC] using q, bel_alloc B1 _⟩
  | none =>
    rw [hE] at HG
    simp only [getV, evV] at HG
    clear hE
    have hz := fun (w1 : World) (hb1 : Below w.heap.size w w1) => bel_alloc hb1 (.cells #[.int .i64 0, .int .i64 0, .int .i64 0, .int .i64 0, .string ⟨#[]⟩, .string ⟨#[]⟩, .string ⟨#[]⟩] 50)
    have HZ := Lib.hid hz
    clear hz
    cases hO : getO l with
    | none =>
      rw [hO] at HO
      simp only [getOV, OC] at HO
      clear hO
      simp only
      go_enter Tryz.func51, Tryz.ntmps51
      go_wp2_with fail
      (with_reducible refine (HG.out _ hB).mono ?_)
      rintro e w1 ⟨rfl, hb1⟩
      have B1 := HZ.out w1 hb1
      have hB1 := hB.below B1
      have hN1 := hN.below B1
      clear hb1
      go_wp2_with fail
      (with_reducible refine (HO.out _ hB1 hN1).mono ?_)
      rintro e w2 ⟨rfl, hb2⟩
      have B2 := bel_step B1 hb2
      go_wp2_with fail
      go_ret2
      exact ⟨rfl, bel_alloc B2 _⟩
    | some o =>
      simp only
      have hok := olF (getO_ok hO)
      have hs := hok.s
      have ht := hok.t
      have HT := Lib.hid (fun W h => third_any o W (by omega) (by omega) h)
      generalize thirdO o = L at *
      rw [hO] at HO
      obtain ⟨v, k, a, b, n, s, t⟩ := o
      simp only [getOV, OC] at HO HT
      clear hO hok
      go_enter Tryz.func51, Tryz.ntmps51
      go_wp2_with fail
      (with_reducible refine (HG.out _ hB).mono ?_)
      rintro e w1 ⟨rfl, hb1⟩
      have B1 := HZ.out w1 hb1
      have hB1 := hB.below B1
      have hN1 := hN.below B1
      clear hb1
      go_wp2_with fail
      (with_reducible refine (HO.out _ hB1 hN1).mono ?_)
      rintro e w2 ⟨rfl, hb2⟩
      have B2 := bel_alloc (bel_step B1 hb2) (.cells #[.int .i64 v, .int .i64 k, .int .i64 a, .int .i64 b, .int .i64 n, .string ⟨s.toArray⟩, .string ⟨t.toArray⟩] 90)
      have hN2 := hN.below B2
      clear hb2
      go_wp2_with fail
      (with_reducible refine (HT.out _ hN2).mono ?_)
      rintro e w3 ⟨A3, c3, rfl, ho3, hb3⟩
      go_wp2_with fail
      go_ret2
      have q := own_mono ho3 B2.size
      exact ⟨A3, c3, rfl, q, bel_step B2 hb3⟩
set_option maxHeartbeats 4000000 in
theorem refEvents_any (A : Option Addr) (nn c : Nat) (l : List UInt8) (w : World) (hn : nn ≤ 20000) (hB : Bs w A nn l) : Calls Tryz.prog 41 #[.slice A nn c] w (RetEvs w (eventsL l) okB) := by
  have HG := Lib.hid (fun W h => refGet15_any A nn c l W hn h)
  have HO := Lib.hid (fun W h => refGet16_any A nn c l W hn h)
  unfold eventsL
  cases hE : getE l with
  | some ev =>
    obtain ⟨k, a, b, n, s, t, u⟩ := ev
    rw [hE] at HG
    simp only [getRV, evV] at HG
    clear hE HO
    simp only
    go_enter Tryz.func41, Tryz.ntmps41
    go_wp2_with fail
    (with_reducible refine (HG.out _ hB).mono ?_)
    rintro e w1 ⟨rfl, hb1⟩
    have he1 := Blk.new w1 50 #[.int .i64 k, .int .i64 a, .int .i64 b, .int .i64 n, .string ⟨s.toArray⟩, .string ⟨t.toArray⟩, .string ⟨u.toArray⟩]
    have B1 := bel_alloc hb1 (.cells #[.int .i64 k, .int .i64 a, .int .i64 b, .int .i64 n, .string ⟨s.toArray⟩, .string ⟨t.toArray⟩, .string ⟨u.toArray⟩] 50)
    have hs1 := hb1.size
    go_wp2_with fail
    go_ret2
    have q := own_lit (w1.alloc (.cells #[.int .i64 k, .int .i64 a, .int .i64 b, .int .i64 n, .string ⟨s.toArray⟩, .string ⟨t.toArray⟩, .string ⟨u.toArray⟩] 50)) 50 7 1 (evC ⟨k, a, b, n, s, t, u⟩) #[.int .i64 k, .int .i64 a, .int .i64 b, .int .i64 n, .string ⟨s.toArray⟩, .string ⟨t.toArray⟩, .string ⟨u.toArray⟩] rfl rfl (by omega) B1.size
    exact ⟨_, _, rfl, by simpa [evsC] using q, bel_alloc B1 _⟩
  | none =>
    rw [hE] at HG
    simp only [getRV, evV] at HG
    clear hE
    have hz := fun (w1 : World) (hb1 : Below w.heap.size w w1) => bel_alloc hb1 (.cells #[.int .i64 0, .int .i64 0, .int .i64 0, .int .i64 0, .string ⟨#[]⟩, .string ⟨#[]⟩, .string ⟨#[]⟩] 50)
    have HZ := Lib.hid hz
    clear hz
    cases hO : getO l with
    | none =>
      rw [hO] at HO
      simp only [getORV, OC] at HO
      clear hO
      simp only
      go_enter Tryz.func41, Tryz.ntmps41
      go_wp2_with fail
      (with_reducible refine (HG.out _ hB).mono ?_)
      rintro e w1 ⟨rfl, hb1⟩
      have B1 := HZ.out w1 hb1
      have hB1 := hB.below B1
      clear hb1
      go_wp2_with fail
      (with_reducible refine (HO.out _ hB1).mono ?_)
      rintro e w2 ⟨rfl, hb2⟩
      have B2 := bel_step B1 hb2
      go_wp2_with fail
      go_ret2
      exact ⟨rfl, bel_alloc B2 _⟩
    | some o =>
      simp only
      have hok := olF (getO_ok hO)
      have hs := hok.s
      have ht := hok.t
      have HT := Lib.hid (fun W => refThird_any o W (by omega) (by omega))
      generalize thirdO o = L at *
      rw [hO] at HO
      obtain ⟨v, k, a, b, n, s, t⟩ := o
      simp only [getORV, OC] at HO HT
      clear hO hok
      go_enter Tryz.func41, Tryz.ntmps41
      go_wp2_with fail
      (with_reducible refine (HG.out _ hB).mono ?_)
      rintro e w1 ⟨rfl, hb1⟩
      have B1 := HZ.out w1 hb1
      have hB1 := hB.below B1
      clear hb1
      go_wp2_with fail
      (with_reducible refine (HO.out _ hB1).mono ?_)
      rintro e w2 ⟨rfl, hb2⟩
      have B2 := bel_alloc (bel_step B1 hb2) (.cells #[.int .i64 v, .int .i64 k, .int .i64 a, .int .i64 b, .int .i64 n, .string ⟨s.toArray⟩, .string ⟨t.toArray⟩] 90)
      clear hb2
      go_wp2_with fail
      (with_reducible refine (HT.out _).mono ?_)
      rintro e w3 ⟨A3, c3, rfl, ho3, hb3⟩
      go_wp2_with fail
      go_ret2
      have q := own_mono ho3 B2.size
      exact ⟨A3, c3, rfl, q, bel_step B2 hb3⟩
end Go.Proofs.YtfepinnfhcjopaaGreatDoor
end
