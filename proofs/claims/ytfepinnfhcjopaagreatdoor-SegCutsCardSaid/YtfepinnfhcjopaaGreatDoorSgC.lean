/-
  Segments: Read (printed by gen_sgread.py).
  Segments: the reference's Read (printed by gen_sgread.py).
-/
import Derived.Test.YtfepinnfhcjopaaGreatDoorSgA
section
namespace Go.Proofs.YtfepinnfhcjopaaGreatDoor
open Go.RowKit Go.Nst
set_option maxRecDepth 100000
set_option linter.unusedVariables false
set_option linter.unusedSimpArgs false

theorem Pr.store {w : World} {base n c g : Nat} {A : Option Addr} {ps : List Part} (h : Pr w base A n c ps) (hg : g < base) (hp : ∀ p ∈ ps, ∀ ad, p.A = some ad → 0 < p.n → ad.block ≠ g) (i : Nat) (v : Value) : Pr (w.setCell ⟨g, i, none⟩ v) base A n c ps :=
  ⟨ownsRow_setCell_below h.own hg v, fun p hm => (h.bs p hm).only (only_setCell (World.grownBy.refl w (some g)) (.inl rfl) v) (fun ad e hn e2 => hp p hm ad e hn (by injection e2)), h.apart⟩
theorem Pr.base {w : World} {base base' n c : Nat} {A : Option Addr} {ps : List Part} (h : Pr w base A n c ps) (hb : base' ≤ base) : Pr w base' A n c ps := ⟨own_mono h.own hb, h.bs, h.apart⟩
theorem seg_five {l : List UInt8} (h : (segHd l).2.2 = true) : 5 < (segHd l).2.1 := by
  unfold segHd at h ⊢
  by_cases h1 : (nextL l).2.2 = 1
  · rw [if_pos h1]
    exact (next_whole h1).1
  · rw [if_neg h1] at h; cases h
def lenOf : Option Value → Nat
  | some (.slice _ m _) => m
  | _ => 0
theorem next_nil : nextL [] = ([], 0, 2) := by decide +kernel
set_option maxHeartbeats 8000000 in
theorem segRead_any (A : Option Addr) (n c : Nat) (l : List UInt8) (w : World) (hn : n ≤ 1000000) (hnc : n ≤ c) (hc63 : c ≤ 9223372036854775807) (hB : Bs w A n l) (ht : Tab w) (hN : Nms w) : Calls Tryz.prog 8 #[.slice A n c] w (RetSeg w (segRd l) okS) := by
  have hl := hB.len
  have HH := Lib.hid (fun W h k => head_any A n c l W (by omega) hnc hc63 h k)
  have hup := fun h => seg_upto (l := l) h
  have hfv := fun h => seg_five (l := l) h
  unfold segRd
  generalize segHd l = hd at *
  obtain ⟨fi, u, is⟩ := hd
  simp only at HH hup hfv ⊢
  have B0 := bel_alloc (Below.refl w.heap.size w) (.cells #[.int .i64 0, .slice none 0 0, .int .i64 0] 26)
  have hres0 := Blk.new w 26 #[.int .i64 0, .slice none 0 0, .int .i64 0]
  have hB0 := hB.below B0
  have ht0 := ht.below B0
  cases is with
  | false =>
    simp only [Bool.false_eq_true, if_false, RetSeg, okS]
    clear hup hfv
    go_enter Tryz.func8, Tryz.ntmps8
    go_wp2_with fail
    (with_reducible refine (HH.out _ hB0 ht0).mono ?_)
    rintro e w1 ⟨rfl, hb1⟩
    have hres1 := hres0.below hb1 hres0.lt
    have B1 := bel_step B0 hb1
    have q0 := hres1.cell 0
    have q1 := hres1.cell 1
    have q2 := hres1.cell 2
    simp at q0 q1 q2
    have hfz := hres1.frozen
    have HR := Lib.hid hres1
    clear hres0 hres1 B0 hB0 ht0 hb1
    go_wp2_with fail
    have z := set3 HR.out (.int .i64 0) (.slice none 0 0) (.int .i64 0)
    have z0 := z.cell 0
    have z1 := z.cell 1
    have z2 := z.cell 2
    simp at z0 z1 z2
    exact bodyPost_ret (v := .tuple #[.agg #[.int .i64 0, .slice none 0 0, .int .i64 0], .int .i64 180]) (by simp [results, Tryz.results8, go_sem, z0, z1, z2]) rfl ⟨rfl, ((B1.setCell (p := ⟨_, 0, none⟩) (Nat.le_refl _) _).setCell (p := ⟨_, 1, none⟩) (Nat.le_refl _) _).setCell (p := ⟨_, 2, none⟩) (Nat.le_refl _) _⟩
  | true =>
    rw [if_pos rfl]
    have hu := hup rfl
    have hu5 := hfv rfl
    clear hup hfv
    obtain ⟨u0, b0, off, rfl, _⟩ := hB.at (k := 0) (by omega)
    obtain ⟨tot, htot⟩ : ∃ tot, readR 64 (l.drop u) = tot := ⟨_, rfl⟩
    have HT2 : Hid ((tot.1, u + tot.2) = ((([] : List Part).map Part.l) ++ (readR (64 - 0) (l.drop u)).1, u + (readR (64 - 0) (l.drop u)).2)) := Lib.hid (by rw [show 64 - 0 = 64 from rfl, htot]; rfl)
    rw [htot]
    clear htot
    generalize hfin : (tot.1, u + tot.2) = fin at *
    obtain ⟨f1, f2⟩ := fin
    injection hfin with e1 e2
    subst e1
    subst e2
    go_enter Tryz.func8, Tryz.ntmps8
    go_wp2_with fail
    (with_reducible refine (HH.out _ hB0 ht0).mono ?_)
    rintro e w1 ⟨rfl, hb1⟩
    have hres1 := (hres0.below hb1 hres0.lt).alloc (.cells #[.int .i64 fi, .slice none 0 0, .int .i64 (u : Int)] 26)
    have hx1 := Blk.new w1 26 #[.int .i64 fi, .slice none 0 0, .int .i64 (u : Int)]
    have B1 := bel_alloc (bel_step B0 hb1) (.cells #[.int .i64 fi, .slice none 0 0, .int .i64 (u : Int)] 26)
    have hs1 := hb1.size
    obtain ⟨gx, hgx⟩ : ∃ gx, gx = w1.heap.size := ⟨_, rfl⟩
    have hgl : w.heap.size < gx := by rw [hgx]; simp at hs1; omega
    rw [← hgx] at hx1
    clear hb1 hres0 B0 hB0 ht0 HH
    go_wp2_with fail
    simp only [← hgx]
    have hxz : gx < (w1.alloc (.cells #[.int .i64 fi, .slice none 0 0, .int .i64 (u : Int)] 26)).heap.size := hx1.lt
    clear hgx hs1
    go_loopw [] (fun wr => ∃ (A2 : Option Addr) (m c2 at_ : Nat) (ps : List Part), m ≤ 64 ∧ u ≤ at_ ∧ at_ ≤ n ∧ Blk wr gx 26 (sgC fi A2 m c2 at_) ∧ Pr wr (gx + 1) A2 m c2 ps ∧ (∀ p ∈ ps, ∀ ad, p.A = some ad → 0 < p.n → gx < ad.block) ∧ Blk wr w.heap.size 26 #[.int .i64 0, .slice none 0 0, .int .i64 0] ∧ Below w.heap.size w wr ∧ Hid ((tot.1, u + tot.2) = (ps.map Part.l ++ (readR (64 - m) (l.drop at_)).1, at_ + (readR (64 - m) (l.drop at_)).2))) (fun wr => 64 - lenOf (wr.cell? ⟨gx, 1, none⟩))
    case atStart => exact ⟨none, 0, 0, u, [], by omega, Nat.le_refl _, by omega, hx1, Pr.nil, by simp, hres1, B1, HT2⟩
    case round =>
      obtain ⟨A2, m, c2, at_, ps, hm, hu1, hat, hx, hP, hpb, hres, hbw, HR⟩ := hrel
      have hxl := hx.lt
      have HPG : Hid (∀ p ∈ ps, ∀ ad, p.A = some ad → 0 < p.n → ad.block ≠ gx) := Lib.hid (fun p hp ad e hn0 e2 => by have := hpb p hp ad e hn0; omega)
      have HPW : Hid (∀ p ∈ ps, ∀ ad, p.A = some ad → 0 < p.n → ad.block ≠ w.heap.size) := Lib.hid (fun p hp ad e hn0 e2 => by have := hpb p hp ad e hn0; omega)
      have HPB := Lib.hid hpb
      clear hpb
      have x0 := hx.cell 0
      have x1 := hx.cell 1
      have x2 := hx.cell 2
      simp [sgC] at x0 x1 x2
      have X1 := Lib.hid x1
      by_cases hm64 : m < 64
      · have d0 : decide ((m : Int) < 64) = true := by simp; omega
        obtain ⟨k, hk⟩ : ∃ k, 64 - m = k + 1 := ⟨63 - m, by omega⟩
        have HK1 := Lib.hid (show 64 - (m + 1) = k by omega)
        rw [hk] at HR
        clear hk
        have HS1 := Lib.hid (fun h1 h2 => read_round HR.out h1 h2)
        have HS2 := Lib.hid (fun h1 => read_stop HR.out h1)
        by_cases hck : c = at_
        · have hnn : n = at_ := by omega
          have hdn : l.drop at_ = [] := List.drop_of_length_le (by omega)
          rw [hdn, next_nil] at HS2
          have HE := Lib.hid (HS2.out (fun q => by cases q.1))
          subst hck
          subst hnn
          have HX := Lib.hid (next17_any (some ⟨b0, off, none⟩) 0 0 [] wr (by omega) (by omega) (by omega) ⟨rfl, fun q => absurd q (by omega)⟩ (ht.below hbw))
          rw [next_nil] at HX
          clear HS1 HS2 HR hdn HK1
          go_wp2_with fail
          (with_reducible refine (HX.out).mono ?_)
          rintro e w2 ⟨A3, n3, c3, rfl, ho3, hb3⟩
          have hx3 := hx.below hb3 hx.lt
          have hres3 := hres.below hb3 hres.lt
          have hP3 := hP.below hb3
          have B3 := bel_step hbw hb3
          clear hx hres hP hbw hb3 ho3 x0 x1 x2
          have r0 := hx3.cell 0
          have r1 := hx3.cell 1
          have r2 := hx3.cell 2
          simp [sgC] at r0 r1 r2
          have q0 := hres3.cell 0
          have q1 := hres3.cell 1
          have q2 := hres3.cell 2
          simp at q0 q1 q2
          have hfz := hres3.frozen
          have z := set3 hres3 (.int .i64 fi) (.slice A2 m c2) (.int .i64 (n : Int))
          have HZ := Lib.hid z
          have HPR := Lib.hid (((hP3.store (g := w.heap.size) (by omega) (HPW.out) 0 (.int .i64 fi)).store (g := w.heap.size) (by omega) (HPW.out) 1 (.slice A2 m c2)).store (g := w.heap.size) (by omega) (HPW.out) 2 (.int .i64 (n : Int)))
          have BF := Lib.hid (((B3.setCell (p := ⟨w.heap.size, 0, none⟩) (Nat.le_refl _) (.int .i64 fi)).setCell (p := ⟨w.heap.size, 1, none⟩) (Nat.le_refl _) (.slice A2 m c2)).setCell (p := ⟨w.heap.size, 2, none⟩) (Nat.le_refl _) (.int .i64 (n : Int)))
          clear z hres3 hx3 hP3
          go_wp2_with fail
          have z0 := HZ.out.cell 0
          have z1 := HZ.out.cell 1
          have z2 := HZ.out.cell 2
          simp at z0 z1 z2
          have he := HE.out
          injection he with he1 he2
          exact bodyPost_ret (v := .tuple #[.agg #[.int .i64 fi, .slice A2 m c2, .int .i64 (n : Int)], .int .i64 0]) (by simp [results, Tryz.results8, go_sem, z0, z1, z2]) rfl ⟨A2, m, c2, ps, by rw [he2]; rfl, HPR.out.base (by omega), by rw [he1], BF.out⟩
        · have hcut := (hB.below hbw).cut (k := at_) (cap := c) (by omega) hnc
          rw [if_neg hck] at hcut
          simp only [Option.map_some, add_lit] at hcut
          have HX := Lib.hid (next17_any (some ⟨b0, off + at_, none⟩) (n - at_) (c - at_) (l.drop at_) wr (by omega) (by omega) (by omega) hcut (ht.below hbw))
          have HW := Lib.hid (fun q => next_whole (l := l.drop at_) q)
          have hnl2 : (nextL (l.drop at_)).1.length ≤ 20000 := by
            have := next_le (l.drop at_)
            omega
          generalize nextL (l.drop at_) = r at *
          obtain ⟨rl, ru, rs⟩ := r
          simp only at HX HW HS1 HS2 hnl2
          have HRC := Lib.hid (fun A' m' c' W (q : Bs W A' m' rl) k => record_any A' m' c' rl W (by have := q.len; omega) q k)
          by_cases hs1 : rs = 1
          · subst hs1
            have HW2 := HW.out rfl
            rw [List.length_drop] at HW2
            cases hrc : recB rl with
            | true =>
              have HN := Lib.hid (HS1.out rfl hrc)
              rw [hrc] at HRC
              clear HW HS1 HS2 hrc HR
              go_wp2_with fail
              (with_reducible refine (HX.out).mono ?_)
              rintro e w2 ⟨A3, n3, c3, rfl, ho3, hb3⟩
              have hN3 := hN.below (bel_step hbw hb3)
              have hs3 := hb3.size
              go_wp2_with fail
              (with_reducible refine (HRC.out _ _ _ _ ho3.bs hN3).mono ?_)
              rintro e w3 ⟨rfl, hb4⟩
              have B4 := bel_step hbw (bel_step hb3 hb4)
              have K4 := bel_step hb3 hb4
              have hx4 := hx.below K4 hx.lt
              have hres4 := hres.below K4 hres.lt
              have hP4 := hP.below (bel_alloc K4 (.cells #[.slice A3 n3 c3] 22))
              have ho4 := (ho3.below hb4).bs.alloc (.cells #[.slice A3 n3 c3] 22)
              have hR1 := one_part w3 22 ⟨A3, n3, c3, rl⟩
              have hap0 : ∀ ad, A3 = some ad → 0 < n3 → wr.heap.size ≤ ad.block := by
                intro ad e hn0
                subst e
                exact (ho3.blk ad.block rfl).1
              have HPB3 : Hid (∀ ad, A3 = some ad → 0 < n3 → gx < ad.block) := Lib.hid (fun ad e hn0 => by have := hap0 ad e hn0; omega)
              have hap : ∀ ad, A3 = some ad → 0 < n3 → (Value.slice A2 m c2).ownBlock ≠ some ad.block := by
                intro ad e hn0 e2
                have h1 := (World.ownsRow.lt hP.own ad.block e2).2
                have h2 := hap0 ad e hn0
                omega
              have hx5 := hx4.alloc (.cells #[.slice A3 n3 c3] 22)
              have hres5 := hres4.alloc (.cells #[.slice A3 n3 c3] 22)
              have B5 := bel_alloc B4 (.cells #[.slice A3 n3 c3] 22)
              have hrowl := World.ownsRow.lt hP.own
              have y1 := hx4.cell 1
              have y2 := hx4.cell 2
              simp [sgC] at y1 y2
              have hs4 := K4.size
              clear hx4 hres4 B4 hx hres hb3 hb4 K4 x0 x1 x2 ho3 hap0 hP
              go_wp2_with (
                at_builtin
                refine wpList_appP _ rfl rfl rfl hP4 ⟨A3, n3, c3, rl⟩ rfl hR1 ho4 hap (by omega) (by simp; omega) ?_
                intro A' c' w' ho hb hgr
                have hx6 := hx5.grown hgr (by intro e2; have := (World.ownsRow.lt hP4.own gx e2.symm).1; omega)
                have hres6 := hres5.grown hgr (by intro e2; have := (World.ownsRow.lt hP4.own w.heap.size e2.symm).1; omega)
                have B6 := B5.trans (hb.mono (by omega))
                have f1_ := hx6.cell 1
                have f2_ := hx6.cell 2
                simp [sgC] at f1_ f2_
                have hfz := hx6.frozen
                have hadd : IntKind.i64.wrap ((at_ : Int) + (ru : Int)) = (at_ : Int) + (ru : Int) := IntWalk.i64_in _ (by omega)
                have HPG2 : Hid (∀ p ∈ ps ++ [⟨A3, n3, c3, rl⟩], ∀ ad, p.A = some ad → 0 < p.n → gx < ad.block) := Lib.hid (fun p hp ad e hn0 => by
                  simp only [List.mem_append, List.mem_singleton] at hp
                  rcases hp with hp | rfl
                  · exact HPB.out p hp ad e hn0
                  · exact HPB3.out ad e hn0)
                have hPn := (ho.store (g := gx) (by omega) (fun p hp ad e hn0 e2 => by have := HPG2.out p hp ad e hn0; omega) 1 (.slice A' (m + 1) c')).store (g := gx) (by omega) (fun p hp ad e hn0 e2 => by have := HPG2.out p hp ad e hn0; omega) 2 (.int .i64 ((at_ : Int) + (ru : Int)))
                have hxn := (hx6.set_ 1 (.slice A' (m + 1) c')).set_ 2 (.int .i64 ((at_ : Int) + (ru : Int)))
                have hresn := (hres6.far (p := ⟨gx, 1, none⟩) (by simp; omega) (.slice A' (m + 1) c')).far (p := ⟨gx, 2, none⟩) (by simp; omega) (.int .i64 ((at_ : Int) + (ru : Int)))
                have Bn := (B6.setCell (p := ⟨gx, 1, none⟩) (by simp; omega) (.slice A' (m + 1) c')).setCell (p := ⟨gx, 2, none⟩) (by simp; omega) (.int .i64 ((at_ : Int) + (ru : Int)))
                have xn1 := hxn.cell 1
                simp [sgC] at xn1
                have HXN := Lib.hid hxn
                clear hxn hx5 hx6 hres5 hres6 B5 hb hgr hP4 ho ho4 hap y1 y2)
              go_roundw
              case rel =>
                refine ⟨A', m + 1, c', at_ + ru, ps ++ [⟨A3, n3, c3, rl⟩], by omega, by omega, by omega, ?_, ?_, HPG2.out, ?_, ?_, ?_⟩
                · have := HXN.out
                  simpa [sgC] using this
                · simpa using hPn
                · simpa using hresn
                · simpa using Bn
                · rw [HK1.out, List.map_append]
                  exact HN
              case measure =>
                rw [X1.out]
                simp [xn1, lenOf]
                omega
            | false =>
              have HE := Lib.hid (HS2.out (fun q => by rw [hrc] at q; cases q.2))
              rw [hrc] at HRC
              clear HW HS1 HS2 hrc HR
              go_wp2_with fail
              (with_reducible refine (HX.out).mono ?_)
              rintro e w2 ⟨A3, n3, c3, rfl, ho3, hb3⟩
              have hN3 := hN.below (bel_step hbw hb3)
              go_wp2_with fail
              (with_reducible refine (HRC.out _ _ _ _ ho3.bs hN3).mono ?_)
              rintro e w3 ⟨rfl, hb4⟩
              have K4 := bel_step hb3 hb4
              have hx3 := hx.below K4 hx.lt
              have hres3 := hres.below K4 hres.lt
              have hP3 := hP.below K4
              have B3 := bel_step hbw K4
              clear hx hres hP hbw hb3 hb4 K4 ho3 x0 x1 x2
              have r0 := hx3.cell 0
              have r1 := hx3.cell 1
              have r2 := hx3.cell 2
              simp [sgC] at r0 r1 r2
              have q0 := hres3.cell 0
              have q1 := hres3.cell 1
              have q2 := hres3.cell 2
              simp at q0 q1 q2
              have hfz := hres3.frozen
              have z := set3 hres3 (.int .i64 fi) (.slice A2 m c2) (.int .i64 (at_ : Int))
              have HZ := Lib.hid z
              have HPR := Lib.hid (((hP3.store (g := w.heap.size) (by omega) (HPW.out) 0 (.int .i64 fi)).store (g := w.heap.size) (by omega) (HPW.out) 1 (.slice A2 m c2)).store (g := w.heap.size) (by omega) (HPW.out) 2 (.int .i64 (at_ : Int)))
              have BF := Lib.hid (((B3.setCell (p := ⟨w.heap.size, 0, none⟩) (Nat.le_refl _) (.int .i64 fi)).setCell (p := ⟨w.heap.size, 1, none⟩) (Nat.le_refl _) (.slice A2 m c2)).setCell (p := ⟨w.heap.size, 2, none⟩) (Nat.le_refl _) (.int .i64 (at_ : Int)))
              clear z hres3 hx3 hP3
              go_wp2_with fail
              have z0 := HZ.out.cell 0
              have z1 := HZ.out.cell 1
              have z2 := HZ.out.cell 2
              simp at z0 z1 z2
              have he := HE.out
              injection he with he1 he2
              exact bodyPost_ret (v := .tuple #[.agg #[.int .i64 fi, .slice A2 m c2, .int .i64 (at_ : Int)], .int .i64 0]) (by simp [results, Tryz.results8, go_sem, z0, z1, z2]) rfl ⟨A2, m, c2, ps, by rw [he2]; rfl, HPR.out.base (by omega), by rw [he1], BF.out⟩
          · have HE := Lib.hid (HS2.out (fun q => hs1 q.1))
            have d1 : (rs != 1) = true := by simpa using hs1
            clear HW HS1 HS2 HR
            go_wp2_with fail
            (with_reducible refine (HX.out).mono ?_)
            rintro e w2 ⟨A3, n3, c3, rfl, ho3, hb3⟩
            have hx3 := hx.below hb3 hx.lt
            have hres3 := hres.below hb3 hres.lt
            have hP3 := hP.below hb3
            have B3 := bel_step hbw hb3
            clear hx hres hP hbw hb3 ho3 x0 x1 x2
            have r0 := hx3.cell 0
            have r1 := hx3.cell 1
            have r2 := hx3.cell 2
            simp [sgC] at r0 r1 r2
            have q0 := hres3.cell 0
            have q1 := hres3.cell 1
            have q2 := hres3.cell 2
            simp at q0 q1 q2
            have hfz := hres3.frozen
            have z := set3 hres3 (.int .i64 fi) (.slice A2 m c2) (.int .i64 (at_ : Int))
            have HZ := Lib.hid z
            have HPR := Lib.hid (((hP3.store (g := w.heap.size) (by omega) (HPW.out) 0 (.int .i64 fi)).store (g := w.heap.size) (by omega) (HPW.out) 1 (.slice A2 m c2)).store (g := w.heap.size) (by omega) (HPW.out) 2 (.int .i64 (at_ : Int)))
            have BF := Lib.hid (((B3.setCell (p := ⟨w.heap.size, 0, none⟩) (Nat.le_refl _) (.int .i64 fi)).setCell (p := ⟨w.heap.size, 1, none⟩) (Nat.le_refl _) (.slice A2 m c2)).setCell (p := ⟨w.heap.size, 2, none⟩) (Nat.le_refl _) (.int .i64 (at_ : Int)))
            clear z hres3 hx3 hP3
            go_wp2_with fail
            have z0 := HZ.out.cell 0
            have z1 := HZ.out.cell 1
            have z2 := HZ.out.cell 2
            simp at z0 z1 z2
            have he := HE.out
            injection he with he1 he2
            exact bodyPost_ret (v := .tuple #[.agg #[.int .i64 fi, .slice A2 m c2, .int .i64 (at_ : Int)], .int .i64 0]) (by simp [results, Tryz.results8, go_sem, z0, z1, z2]) rfl ⟨A2, m, c2, ps, by rw [he2]; rfl, HPR.out.base (by omega), by rw [he1], BF.out⟩
      · have hm2 : m = 64 := by omega
        have HE : Hid ((tot.1, u + tot.2) = (ps.map Part.l, at_)) := Lib.hid (by rw [HR.out, hm2]; simp [readR])
        have d0 : decide ((m : Int) < 64) = false := by simp; omega
        have hx3 := hx
        have hres3 := hres
        have hP3 := hP
        have B3 := hbw
        clear hx hres hP hbw x0 x1 x2 HR hm2
        have r0 := hx3.cell 0
        have r1 := hx3.cell 1
        have r2 := hx3.cell 2
        simp [sgC] at r0 r1 r2
        have q0 := hres3.cell 0
        have q1 := hres3.cell 1
        have q2 := hres3.cell 2
        simp at q0 q1 q2
        have hfz := hres3.frozen
        have z := set3 hres3 (.int .i64 fi) (.slice A2 m c2) (.int .i64 (at_ : Int))
        have HZ := Lib.hid z
        have HPR := Lib.hid (((hP3.store (g := w.heap.size) (by omega) (HPW.out) 0 (.int .i64 fi)).store (g := w.heap.size) (by omega) (HPW.out) 1 (.slice A2 m c2)).store (g := w.heap.size) (by omega) (HPW.out) 2 (.int .i64 (at_ : Int)))
        have BF := Lib.hid (((B3.setCell (p := ⟨w.heap.size, 0, none⟩) (Nat.le_refl _) (.int .i64 fi)).setCell (p := ⟨w.heap.size, 1, none⟩) (Nat.le_refl _) (.slice A2 m c2)).setCell (p := ⟨w.heap.size, 2, none⟩) (Nat.le_refl _) (.int .i64 (at_ : Int)))
        clear z hres3 hx3 hP3
        go_wp2_with fail
        have z0 := HZ.out.cell 0
        have z1 := HZ.out.cell 1
        have z2 := HZ.out.cell 2
        simp at z0 z1 z2
        have he := HE.out
        injection he with he1 he2
        exact bodyPost_ret (v := .tuple #[.agg #[.int .i64 fi, .slice A2 m c2, .int .i64 (at_ : Int)], .int .i64 0]) (by simp [results, Tryz.results8, go_sem, z0, z1, z2]) rfl ⟨A2, m, c2, ps, by rw [he2]; rfl, HPR.out.base (by omega), by rw [he1], BF.out⟩
end Go.Proofs.YtfepinnfhcjopaaGreatDoor
end
section
namespace Go.Proofs.YtfepinnfhcjopaaGreatDoor
open Go.RowKit Go.Nst
set_option maxRecDepth 100000
set_option linter.unusedVariables false
set_option linter.unusedSimpArgs false

def okR18 (b : Bool) : Value := .bool b
set_option maxHeartbeats 8000000 in
theorem refRead18_any (A : Option Addr) (n c : Nat) (l : List UInt8) (w : World) (hn : n ≤ 20000) (hnc : n ≤ c) (hc63 : c ≤ 9223372036854775807) (hB : Bs w A n l) : Calls Tryz.prog 9 #[.slice A n c] w (RetSeg w (segRd l) okR18) := by
  have hl := hB.len
  have HH := Lib.hid (fun W h => refNext17_any A n c l W (by omega) hnc hc63 h)
  have hup := fun h => seg_upto (l := l) h
  have hfv := fun h => seg_five (l := l) h
  have hSH : segHd l = if (nextL l).2.2 = 1 then ((hdN (nextL l).1).1, (nextL l).2.1, hdOk (nextL l).1) else (0, 0, false) := rfl
  unfold segRd
  rw [hSH] at hup hfv ⊢
  clear hSH
  have hnl : (nextL l).1.length ≤ 20000 := by
    by_cases h1 : (nextL l).2.2 = 1
    · have := (next_len l h1).2
      omega
    · rw [(next_other h1).1]; simp
  generalize nextL l = q at *
  obtain ⟨h_, u, s⟩ := q
  simp only at HH hnl hup hfv ⊢
  have B0 := bel_alloc (Below.refl w.heap.size w) (.cells #[.int .i64 0, .slice none 0 0, .int .i64 0] 26)
  have hres0 := Blk.new w 26 #[.int .i64 0, .slice none 0 0, .int .i64 0]
  have hB0 := hB.below B0
  by_cases hs : s = 1
  case neg =>
    rw [if_neg hs]
    have d1 : (s != 1) = true := by simpa using hs
    simp only [Bool.false_eq_true, if_false, RetSeg, okR18]
    clear hup hfv hs
    go_enter Tryz.func9, Tryz.ntmps9
    go_wp2_with fail
    (with_reducible refine (HH.out _ hB0).mono ?_)
    rintro e w1 ⟨A1, n1, c1, rfl, ho1, hb1, hnc1, hin1⟩
    have hres1 := hres0.below hb1 hres0.lt
    have B1 := bel_step B0 hb1
    have q0 := hres1.cell 0
    have q1 := hres1.cell 1
    have q2 := hres1.cell 2
    simp at q0 q1 q2
    have hfz := hres1.frozen
    have HR := Lib.hid hres1
    clear hres0 hres1 B0 hB0 hb1
    go_wp2_with fail
    have z := set3 HR.out (.int .i64 0) (.slice none 0 0) (.int .i64 0)
    have z0 := z.cell 0
    have z1 := z.cell 1
    have z2 := z.cell 2
    simp at z0 z1 z2
    exact bodyPost_ret (v := .tuple #[.agg #[.int .i64 0, .slice none 0 0, .int .i64 0], .bool false]) (by simp [results, Tryz.results9, go_sem, z0, z1, z2]) rfl ⟨rfl, ((B1.setCell (p := ⟨_, 0, none⟩) (Nat.le_refl _) _).setCell (p := ⟨_, 1, none⟩) (Nat.le_refl _) _).setCell (p := ⟨_, 2, none⟩) (Nat.le_refl _) _⟩
  case pos =>
    subst hs
    rw [if_pos (show (1 : Int) = 1 from rfl)] at hup hfv ⊢
    simp only at hup hfv ⊢
    have HTE : Hid (RS.text ⟨h_, false⟩ = hdT h_) := rfl
    have HNE : Hid ((hdT h_).2.num = hdN h_) := rfl
    have htl := text_len ⟨h_, false⟩
    have hnl2 := num_len (hdT h_).2
    rw [HTE.out] at htl
    rw [HNE.out] at hnl2
    have hO : hdOk h_ = (((hdT h_).1 == markL) && (!(hdN h_).2.bad && (decide ((hdN h_).2.left = 0) && knownB (hdN h_).1))) := rfl
    rw [hO] at hup hfv ⊢
    clear hO
    generalize hdT h_ = tq at *
    obtain ⟨tx, r1⟩ := tq
    simp only at HTE HNE htl hnl2 hup hfv ⊢
    generalize hdN h_ = nq at *
    obtain ⟨fi, r2⟩ := nq
    simp only at HNE hnl2 hup hfv ⊢
    have HK := Lib.hid (fun W => refFirst18_any fi W)
    obtain ⟨lf, hlf⟩ : ∃ lf, r2.left = lf := ⟨_, rfl⟩
    rw [hlf] at hup hfv ⊢
    have HLF := Lib.hid hlf
    clear hlf
    obtain ⟨tot, htot⟩ : ∃ tot, readR 64 (l.drop u) = tot := ⟨_, rfl⟩
    have HT2 : Hid ((tot.1, u + tot.2) = ((([] : List Part).map Part.l) ++ (readR (64 - 0) (l.drop u)).1, u + (readR (64 - 0) (l.drop u)).2)) := Lib.hid (by rw [show 64 - 0 = 64 from rfl, htot]; rfl)
    rw [htot]
    clear htot
    generalize hgoal : (if ((tx == markL) && (!r2.bad && (decide (lf = 0) && knownB fi))) = true then some (fi, tot.1, u + tot.2) else none) = res
    have HG := Lib.hid hgoal
    clear hgoal
    go_enter Tryz.func9, Tryz.ntmps9
    go_wp2_with fail
    (with_reducible refine (HH.out _ hB0).mono ?_)
    rintro e w1 ⟨A1, n1, c1, rfl, ho1, hb1, hnc1, hin1⟩
    have B1 := bel_alloc (bel_step B0 hb1) (.cells #[.slice A1 n1 c1, .bool false] 57)
    have hres1 := (hres0.below hb1 hres0.lt).alloc (.cells #[.slice A1 n1 c1, .bool false] 57)
    have hn1 := ho1.len
    have hR1 : RdT 57 (w1.alloc (.cells #[.slice A1 n1 c1, .bool false] 57)) w1.heap.size ⟨h_, false⟩ := ⟨A1, n1, c1, Blk.new w1 _ _, ho1.alloc _, hnc1, by simp only at *; omega⟩
    have hs1 := hb1.size
    obtain ⟨gr, hgr⟩ : ∃ gr, gr = w1.heap.size := ⟨_, rfl⟩
    have hgrl : w.heap.size < gr := by rw [hgr]; simp at hs1; omega
    rw [← hgr] at hR1
    have HRT := Lib.hid (refText_any gr ⟨h_, false⟩ _ hR1)
    rw [HTE.out] at HRT
    simp only at HRT
    clear hb1 B0 hB0 hres0 ho1 hin1 hn1
    go_wp2_with fail
    simp only [← hgr]
    clear hgr hs1 hR1
    (with_reducible refine (HRT.out).mono ?_)
    rintro e w2 ⟨rfl, hR2, hg2⟩
    have B2 := below_only B1 hg2 (by omega) B1.size
    have hres2 := hres1.grown hg2 (by simp; omega)
    clear B1 hres1 hg2 HRT
    by_cases hmk : tx = markL
    case neg =>
      have e1 : (tx == [110, 101, 119, 115]) = false := by simpa [markL] using hmk
      have e2 : ¬ tx = [110, 101, 119, 115] := hmk
      have e0 : (tx == markL) = false := e1
      have hgoal := HG.out
      rw [e0, Bool.false_and] at hgoal
      simp only [Bool.false_eq_true, if_false] at hgoal
      subst hgoal
      simp only [RetSeg, okR18]
      clear HG hup hfv e0
      have q0 := hres2.cell 0
      have q1 := hres2.cell 1
      have q2 := hres2.cell 2
      simp at q0 q1 q2
      have hfz := hres2.frozen
      have HR := Lib.hid hres2
      clear hres2 hR2 hmk
      go_wp2_with fail
      have z := set3 HR.out (.int .i64 0) (.slice none 0 0) (.int .i64 0)
      have z0 := z.cell 0
      have z1 := z.cell 1
      have z2 := z.cell 2
      simp at z0 z1 z2
      exact bodyPost_ret (v := .tuple #[.agg #[.int .i64 0, .slice none 0 0, .int .i64 0], .bool false]) (by simp [results, Tryz.results9, go_sem, z0, z1, z2]) rfl ⟨rfl, ((B2.setCell (p := ⟨_, 0, none⟩) (Nat.le_refl _) _).setCell (p := ⟨_, 1, none⟩) (Nat.le_refl _) _).setCell (p := ⟨_, 2, none⟩) (Nat.le_refl _) _⟩
    case pos =>
      subst hmk
      have e0 : (markL == markL) = true := by decide
      have hgoal := HG.out
      rw [e0, Bool.true_and] at hup hfv hgoal
      clear HG
      have HG := Lib.hid hgoal
      clear hgoal
      have HRN := Lib.hid (refNum_any gr r1 w2 hR2)
      rw [HNE.out] at HRN
      simp only at HRN
      unfold markL
      clear hR2
      go_wp2_with fail
      (with_reducible refine (HRN.out).mono ?_)
      rintro e w3 ⟨rfl, hR3, hg3⟩
      have B3 := below_only B2 hg3 (by omega) B2.size
      have hres3 := hres2.grown hg3 (by simp; omega)
      clear hg3 B2 hres2 HRN
      have hbd : ∃ A' n' c', Blk w3 gr 57 #[.slice A' n' c', .bool r2.bad] := by
        obtain ⟨A', n', c', hh, _⟩ := hR3
        exact ⟨A', n', c', hh⟩
      obtain ⟨A', n', c', hblk⟩ := hbd
      have hblk4 := hblk.alloc (.cells #[.int .i64 fi, .slice none 0 0, .int .i64 (u : Int)] 26)
      have k1 := hblk4.cell 1
      simp at k1
      have B4 := bel_alloc B3 (.cells #[.int .i64 fi, .slice none 0 0, .int .i64 (u : Int)] 26)
      have hres4 := hres3.alloc (.cells #[.int .i64 fi, .slice none 0 0, .int .i64 (u : Int)] 26)
      have hx4 := Blk.new w3 26 #[.int .i64 fi, .slice none 0 0, .int .i64 (u : Int)]
      have hR4 : RdT 57 (w3.alloc (.cells #[.int .i64 fi, .slice none 0 0, .int .i64 (u : Int)] 26)) gr r2 := by
        obtain ⟨A', n', c', h1, h2, h3, h4⟩ := hR3
        exact ⟨A', n', c', h1.alloc _, h2.alloc _, h3, h4⟩
      have HLA := Lib.hid (refLeft_any gr r2 _ hR4)
      rw [HLF.out] at HLA
      obtain ⟨gx, hgx⟩ : ∃ gx, gx = w3.heap.size := ⟨_, rfl⟩
      have hgl : w.heap.size < gx := by rw [hgx]; have := hres3.lt; omega
      rw [← hgx] at hx4
      have y0 := hx4.cell 0
      simp at y0
      clear hblk hR3 B3 hres3 hblk4 hR4
      have q0 := hres4.cell 0
      have q1 := hres4.cell 1
      have q2 := hres4.cell 2
      simp at q0 q1 q2
      have hfz := hres4.frozen
      cases hbd : r2.bad with
      | true =>
        have hgoal := HG.out
        rw [hbd] at k1 hgoal
        simp only [Bool.not_true, Bool.false_and, Bool.false_eq_true, if_false] at hgoal
        subst hgoal
        clear HG
        simp only [RetSeg, okR18]
        have HR := Lib.hid hres4
        clear hup hfv hbd hx4 hres4 HLA
        go_wp2_with fail
        have z := set3 HR.out (.int .i64 0) (.slice none 0 0) (.int .i64 0)
        have z0 := z.cell 0
        have z1 := z.cell 1
        have z2 := z.cell 2
        simp at z0 z1 z2
        exact bodyPost_ret (v := .tuple #[.agg #[.int .i64 0, .slice none 0 0, .int .i64 0], .bool false]) (by simp [results, Tryz.results9, go_sem, z0, z1, z2]) rfl ⟨rfl, ((B4.setCell (p := ⟨_, 0, none⟩) (Nat.le_refl _) _).setCell (p := ⟨_, 1, none⟩) (Nat.le_refl _) _).setCell (p := ⟨_, 2, none⟩) (Nat.le_refl _) _⟩
      | false =>
        have hgoal := HG.out
        rw [hbd] at k1 hup hfv hgoal
        simp only [Bool.not_false, Bool.true_and] at hup hfv hgoal
        by_cases hz : lf = 0
        case neg =>
          have z1 : decide (lf = 0) = false := by simpa using hz
          have z2 : decide (0 < lf) = true := by simp; omega
          have z3 : decide ((0 : Int) < (lf : Int)) = true := by simp; omega
          rw [z1, Bool.false_and] at hgoal
          simp only [Bool.false_eq_true, if_false] at hgoal
          subst hgoal
          clear HG
          simp only [RetSeg, okR18]
          have HR := Lib.hid hres4
          clear hup hfv hbd hx4 hres4 z1
          go_wp2_with fail
          (with_reducible refine (HLA.out).mono ?_)
          rintro e w5 ⟨rfl, rfl⟩
          go_wp2_with fail
          have z := set3 HR.out (.int .i64 0) (.slice none 0 0) (.int .i64 0)
          have z0 := z.cell 0
          have z1 := z.cell 1
          have z2 := z.cell 2
          simp at z0 z1 z2
          exact bodyPost_ret (v := .tuple #[.agg #[.int .i64 0, .slice none 0 0, .int .i64 0], .bool false]) (by simp [results, Tryz.results9, go_sem, z0, z1, z2]) rfl ⟨rfl, ((B4.setCell (p := ⟨_, 0, none⟩) (Nat.le_refl _) _).setCell (p := ⟨_, 1, none⟩) (Nat.le_refl _) _).setCell (p := ⟨_, 2, none⟩) (Nat.le_refl _) _⟩
        case pos =>
          subst hz
          rw [show decide (0 = 0) = true from rfl, Bool.true_and] at hup hfv hgoal
          cases hkn : knownB fi with
          | false =>
            rw [hkn] at HK hgoal
            simp only [Bool.false_eq_true, if_false] at hgoal
            subst hgoal
            clear HG
            simp only [RetSeg, okR18]
            have HR := Lib.hid hres4
            clear hup hfv hbd hx4 hres4 hkn
            go_wp2_with fail
            (with_reducible refine (HLA.out).mono ?_)
            rintro e w5 ⟨rfl, rfl⟩
            go_wp2_with fail
            (with_reducible refine (HK.out _).mono ?_)
            rintro e w6 ⟨rfl, rfl⟩
            go_wp2_with fail
            have z := set3 HR.out (.int .i64 0) (.slice none 0 0) (.int .i64 0)
            have z0 := z.cell 0
            have z1 := z.cell 1
            have z2 := z.cell 2
            simp at z0 z1 z2
            exact bodyPost_ret (v := .tuple #[.agg #[.int .i64 0, .slice none 0 0, .int .i64 0], .bool false]) (by simp [results, Tryz.results9, go_sem, z0, z1, z2]) rfl ⟨rfl, ((B4.setCell (p := ⟨_, 0, none⟩) (Nat.le_refl _) _).setCell (p := ⟨_, 1, none⟩) (Nat.le_refl _) _).setCell (p := ⟨_, 2, none⟩) (Nat.le_refl _) _⟩
          | true =>
            rw [hkn] at HK hup hfv hgoal
            rw [if_pos rfl] at hgoal
            subst hgoal
            clear HG
            have hu := hup rfl
            have hu5 := hfv rfl
            clear hup hfv hbd hkn
            obtain ⟨u0, b0, off, rfl, _, hb0l, _⟩ := hB.at (k := 0) (by omega)
            have hres1 := hres4
            have hx1 := hx4
            have B1 := B4
            clear hres4 hx4 B4 q0 q1 q2 hfz
            go_wp2_with fail
            (with_reducible refine (HLA.out).mono ?_)
            rintro e w5 ⟨rfl, rfl⟩
            go_wp2_with fail
            (with_reducible refine (HK.out _).mono ?_)
            rintro e w6 ⟨rfl, rfl⟩
            clear y0 k1 HLA HK
            go_wp2_with fail
            simp only [← hgx]
            have hxz : gx < (w3.alloc (.cells #[.int .i64 fi, .slice none 0 0, .int .i64 (u : Int)] 26)).heap.size := hx1.lt
            clear hgx
            go_loopw [] (fun wr => ∃ (A2 : Option Addr) (m c2 at_ : Nat) (ps : List Part), m ≤ 64 ∧ u ≤ at_ ∧ at_ ≤ n ∧ Blk wr gx 26 (sgC fi A2 m c2 at_) ∧ Pr wr (gx + 1) A2 m c2 ps ∧ (∀ p ∈ ps, ∀ ad, p.A = some ad → 0 < p.n → ad.block = b0) ∧ Blk wr w.heap.size 26 #[.int .i64 0, .slice none 0 0, .int .i64 0] ∧ Below w.heap.size w wr ∧ Hid ((tot.1, u + tot.2) = (ps.map Part.l ++ (readR (64 - m) (l.drop at_)).1, at_ + (readR (64 - m) (l.drop at_)).2))) (fun wr => 64 - lenOf (wr.cell? ⟨gx, 1, none⟩))
            case atStart => exact ⟨none, 0, 0, u, [], by omega, Nat.le_refl _, by omega, hx1, Pr.nil, by simp, hres1, B1, HT2⟩
            case round =>
              obtain ⟨A2, m, c2, at_, ps, hm, hu1, hat, hx, hP, hpb, hres, hbw, HR⟩ := hrel
              have hxl := hx.lt
              have HPG : Hid (∀ p ∈ ps, ∀ ad, p.A = some ad → 0 < p.n → ad.block ≠ gx) := Lib.hid (fun p hp ad e hn0 e2 => by have := hpb p hp ad e hn0; omega)
              have HPW : Hid (∀ p ∈ ps, ∀ ad, p.A = some ad → 0 < p.n → ad.block ≠ w.heap.size) := Lib.hid (fun p hp ad e hn0 e2 => by have := hpb p hp ad e hn0; omega)
              have HPB := Lib.hid hpb
              clear hpb
              have x0 := hx.cell 0
              have x1 := hx.cell 1
              have x2 := hx.cell 2
              simp [sgC] at x0 x1 x2
              have X1 := Lib.hid x1
              by_cases hm64 : m < 64
              · have d0 : decide ((m : Int) < 64) = true := by simp; omega
                obtain ⟨k, hk⟩ : ∃ k, 64 - m = k + 1 := ⟨63 - m, by omega⟩
                have HK1 := Lib.hid (show 64 - (m + 1) = k by omega)
                rw [hk] at HR
                clear hk
                have HS1 := Lib.hid (fun h1 h2 => read_round HR.out h1 h2)
                have HS2 := Lib.hid (fun h1 => read_stop HR.out h1)
                by_cases hck : c = at_
                · have hnn : n = at_ := by omega
                  have hdn : l.drop at_ = [] := List.drop_of_length_le (by omega)
                  rw [hdn, next_nil] at HS2
                  have HE := Lib.hid (HS2.out (fun q => by cases q.1))
                  subst hck
                  subst hnn
                  have HX := Lib.hid (refNext17_any (some ⟨b0, off, none⟩) 0 0 [] wr (by omega) (by omega) (by omega) ⟨rfl, fun q => absurd q (by omega)⟩)
                  rw [next_nil] at HX
                  clear HS1 HS2 HR hdn HK1
                  go_wp2_with fail
                  (with_reducible refine (HX.out).mono ?_)
                  rintro e w2 ⟨A3, n3, c3, rfl, ho3, hb3, hnc3, hin3⟩
                  have hx3 := hx.below hb3 hx.lt
                  have hres3 := hres.below hb3 hres.lt
                  have hP3 := hP.below hb3
                  have B3 := bel_step hbw hb3
                  clear hx hres hP hbw hb3 ho3 hnc3 hin3 x0 x1 x2
                  have r0 := hx3.cell 0
                  have r1 := hx3.cell 1
                  have r2 := hx3.cell 2
                  simp [sgC] at r0 r1 r2
                  have q0 := hres3.cell 0
                  have q1 := hres3.cell 1
                  have q2 := hres3.cell 2
                  simp at q0 q1 q2
                  have hfz := hres3.frozen
                  have z := set3 hres3 (.int .i64 fi) (.slice A2 m c2) (.int .i64 (n : Int))
                  have HZ := Lib.hid z
                  have HPR := Lib.hid (((hP3.store (g := w.heap.size) (by omega) (HPW.out) 0 (.int .i64 fi)).store (g := w.heap.size) (by omega) (HPW.out) 1 (.slice A2 m c2)).store (g := w.heap.size) (by omega) (HPW.out) 2 (.int .i64 (n : Int)))
                  have BF := Lib.hid (((B3.setCell (p := ⟨w.heap.size, 0, none⟩) (Nat.le_refl _) (.int .i64 fi)).setCell (p := ⟨w.heap.size, 1, none⟩) (Nat.le_refl _) (.slice A2 m c2)).setCell (p := ⟨w.heap.size, 2, none⟩) (Nat.le_refl _) (.int .i64 (n : Int)))
                  clear z hres3 hx3 hP3
                  go_wp2_with fail
                  have z0 := HZ.out.cell 0
                  have z1 := HZ.out.cell 1
                  have z2 := HZ.out.cell 2
                  simp at z0 z1 z2
                  have he := HE.out
                  injection he with he1 he2
                  exact bodyPost_ret (v := .tuple #[.agg #[.int .i64 fi, .slice A2 m c2, .int .i64 (n : Int)], .bool true]) (by simp [results, Tryz.results9, go_sem, z0, z1, z2]) rfl ⟨A2, m, c2, ps, by rw [he2]; rfl, HPR.out.base (by omega), by rw [he1], BF.out⟩
                · have hcut := (hB.below hbw).cut (k := at_) (cap := c) (by omega) hnc
                  rw [if_neg hck] at hcut
                  simp only [Option.map_some, add_lit] at hcut
                  have HX := Lib.hid (refNext17_any (some ⟨b0, off + at_, none⟩) (n - at_) (c - at_) (l.drop at_) wr (by omega) (by omega) (by omega) hcut)
                  have HW := Lib.hid (fun q => next_whole (l := l.drop at_) q)
                  have hnl2 : (nextL (l.drop at_)).1.length ≤ 20000 := by
                    have := next_le (l.drop at_)
                    omega
                  generalize nextL (l.drop at_) = r at *
                  obtain ⟨rl, ru, rs⟩ := r
                  simp only at HX HW HS1 HS2 hnl2
                  have HRC := Lib.hid (fun A' m' c' W (q : Bs W A' m' rl) => refRecord_any A' m' c' rl W (by have := q.len; omega) q)
                  by_cases hs1 : rs = 1
                  · subst hs1
                    have HW2 := HW.out rfl
                    rw [List.length_drop] at HW2
                    cases hrc : recB rl with
                    | true =>
                      have HN := Lib.hid (HS1.out rfl hrc)
                      rw [hrc] at HRC
                      clear HW HS1 HS2 hrc HR
                      go_wp2_with fail
                      (with_reducible refine (HX.out).mono ?_)
                      rintro e w2 ⟨A3, n3, c3, rfl, ho3, hb3, hnc3, hin3⟩
                      have hs3 := hb3.size
                      go_wp2_with fail
                      (with_reducible refine (HRC.out _ _ _ _ ho3).mono ?_)
                      rintro e w3 ⟨rfl, hb4⟩
                      have B4 := bel_step hbw (bel_step hb3 hb4)
                      have K4 := bel_step hb3 hb4
                      have hx4 := hx.below K4 hx.lt
                      have hres4 := hres.below K4 hres.lt
                      have hP4 := hP.below (bel_alloc K4 (.cells #[.slice A3 n3 c3] 22))
                      have ho4 := (ho3.below hb4).alloc (.cells #[.slice A3 n3 c3] 22)
                      have hR1 := one_part w3 22 ⟨A3, n3, c3, rl⟩
                      have hap0 : ∀ ad, A3 = some ad → 0 < n3 → ad.block = b0 := by
                        intro ad e hn0
                        obtain ⟨a0, ea, eb⟩ := hin3 ad e hn0
                        injection ea with ea
                        rw [eb, ← ea]
                      have HPB3 : Hid (∀ ad, A3 = some ad → 0 < n3 → ad.block = b0) := Lib.hid hap0
                      have hap : ∀ ad, A3 = some ad → 0 < n3 → (Value.slice A2 m c2).ownBlock ≠ some ad.block := by
                        intro ad e hn0 e2
                        have h1 := (World.ownsRow.lt hP.own ad.block e2).1
                        have h2 := hap0 ad e hn0
                        omega
                      have hx5 := hx4.alloc (.cells #[.slice A3 n3 c3] 22)
                      have hres5 := hres4.alloc (.cells #[.slice A3 n3 c3] 22)
                      have B5 := bel_alloc B4 (.cells #[.slice A3 n3 c3] 22)
                      have hrowl := World.ownsRow.lt hP.own
                      have y1 := hx4.cell 1
                      have y2 := hx4.cell 2
                      simp [sgC] at y1 y2
                      have hs4 := K4.size
                      clear hx4 hres4 B4 hx hres hb3 hb4 K4 x0 x1 x2 ho3 hap0 hP hin3 hnc3
                      go_wp2_with (
                        at_builtin
                        refine wpList_appP _ rfl rfl rfl hP4 ⟨A3, n3, c3, rl⟩ rfl hR1 ho4 hap (by omega) (by simp; omega) ?_
                        intro A' c' w' ho hb hgr
                        have hx6 := hx5.grown hgr (by intro e2; have := (World.ownsRow.lt hP4.own gx e2.symm).1; omega)
                        have hres6 := hres5.grown hgr (by intro e2; have := (World.ownsRow.lt hP4.own w.heap.size e2.symm).1; omega)
                        have B6 := B5.trans (hb.mono (by omega))
                        have f1_ := hx6.cell 1
                        have f2_ := hx6.cell 2
                        simp [sgC] at f1_ f2_
                        have hfz := hx6.frozen
                        have hadd : IntKind.i64.wrap ((at_ : Int) + (ru : Int)) = (at_ : Int) + (ru : Int) := IntWalk.i64_in _ (by omega)
                        have HPG2 : Hid (∀ p ∈ ps ++ [⟨A3, n3, c3, rl⟩], ∀ ad, p.A = some ad → 0 < p.n → ad.block = b0) := Lib.hid (fun p hp ad e hn0 => by
                          simp only [List.mem_append, List.mem_singleton] at hp
                          rcases hp with hp | rfl
                          · exact HPB.out p hp ad e hn0
                          · exact HPB3.out ad e hn0)
                        have hPn := (ho.store (g := gx) (by omega) (fun p hp ad e hn0 e2 => by have := HPG2.out p hp ad e hn0; omega) 1 (.slice A' (m + 1) c')).store (g := gx) (by omega) (fun p hp ad e hn0 e2 => by have := HPG2.out p hp ad e hn0; omega) 2 (.int .i64 ((at_ : Int) + (ru : Int)))
                        have hxn := (hx6.set_ 1 (.slice A' (m + 1) c')).set_ 2 (.int .i64 ((at_ : Int) + (ru : Int)))
                        have hresn := (hres6.far (p := ⟨gx, 1, none⟩) (by simp; omega) (.slice A' (m + 1) c')).far (p := ⟨gx, 2, none⟩) (by simp; omega) (.int .i64 ((at_ : Int) + (ru : Int)))
                        have Bn := (B6.setCell (p := ⟨gx, 1, none⟩) (by simp; omega) (.slice A' (m + 1) c')).setCell (p := ⟨gx, 2, none⟩) (by simp; omega) (.int .i64 ((at_ : Int) + (ru : Int)))
                        have xn1 := hxn.cell 1
                        simp [sgC] at xn1
                        have HXN := Lib.hid hxn
                        clear hxn hx5 hx6 hres5 hres6 B5 hb hgr hP4 ho ho4 hap y1 y2)
                      go_roundw
                      case rel =>
                        refine ⟨A', m + 1, c', at_ + ru, ps ++ [⟨A3, n3, c3, rl⟩], by omega, by omega, by omega, ?_, ?_, HPG2.out, ?_, ?_, ?_⟩
                        · have := HXN.out
                          simpa [sgC] using this
                        · simpa using hPn
                        · simpa using hresn
                        · simpa using Bn
                        · rw [HK1.out, List.map_append]
                          exact HN
                      case measure =>
                        rw [X1.out]
                        simp [xn1, lenOf]
                        omega
                    | false =>
                      have HE := Lib.hid (HS2.out (fun q => by rw [hrc] at q; cases q.2))
                      rw [hrc] at HRC
                      clear HW HS1 HS2 hrc HR
                      go_wp2_with fail
                      (with_reducible refine (HX.out).mono ?_)
                      rintro e w2 ⟨A3, n3, c3, rfl, ho3, hb3, hnc3, hin3⟩
                      go_wp2_with fail
                      (with_reducible refine (HRC.out _ _ _ _ ho3).mono ?_)
                      rintro e w3 ⟨rfl, hb4⟩
                      have K4 := bel_step hb3 hb4
                      have hx3 := hx.below K4 hx.lt
                      have hres3 := hres.below K4 hres.lt
                      have hP3 := hP.below K4
                      have B3 := bel_step hbw K4
                      clear hx hres hP hbw hb3 hb4 K4 ho3 hnc3 hin3 x0 x1 x2
                      have r0 := hx3.cell 0
                      have r1 := hx3.cell 1
                      have r2 := hx3.cell 2
                      simp [sgC] at r0 r1 r2
                      have q0 := hres3.cell 0
                      have q1 := hres3.cell 1
                      have q2 := hres3.cell 2
                      simp at q0 q1 q2
                      have hfz := hres3.frozen
                      have z := set3 hres3 (.int .i64 fi) (.slice A2 m c2) (.int .i64 (at_ : Int))
                      have HZ := Lib.hid z
                      have HPR := Lib.hid (((hP3.store (g := w.heap.size) (by omega) (HPW.out) 0 (.int .i64 fi)).store (g := w.heap.size) (by omega) (HPW.out) 1 (.slice A2 m c2)).store (g := w.heap.size) (by omega) (HPW.out) 2 (.int .i64 (at_ : Int)))
                      have BF := Lib.hid (((B3.setCell (p := ⟨w.heap.size, 0, none⟩) (Nat.le_refl _) (.int .i64 fi)).setCell (p := ⟨w.heap.size, 1, none⟩) (Nat.le_refl _) (.slice A2 m c2)).setCell (p := ⟨w.heap.size, 2, none⟩) (Nat.le_refl _) (.int .i64 (at_ : Int)))
                      clear z hres3 hx3 hP3
                      go_wp2_with fail
                      have z0 := HZ.out.cell 0
                      have z1 := HZ.out.cell 1
                      have z2 := HZ.out.cell 2
                      simp at z0 z1 z2
                      have he := HE.out
                      injection he with he1 he2
                      exact bodyPost_ret (v := .tuple #[.agg #[.int .i64 fi, .slice A2 m c2, .int .i64 (at_ : Int)], .bool true]) (by simp [results, Tryz.results9, go_sem, z0, z1, z2]) rfl ⟨A2, m, c2, ps, by rw [he2]; rfl, HPR.out.base (by omega), by rw [he1], BF.out⟩
                  · have HE := Lib.hid (HS2.out (fun q => hs1 q.1))
                    have d1 : (rs != 1) = true := by simpa using hs1
                    clear HW HS1 HS2 HR
                    go_wp2_with fail
                    (with_reducible refine (HX.out).mono ?_)
                    rintro e w2 ⟨A3, n3, c3, rfl, ho3, hb3, hnc3, hin3⟩
                    have hx3 := hx.below hb3 hx.lt
                    have hres3 := hres.below hb3 hres.lt
                    have hP3 := hP.below hb3
                    have B3 := bel_step hbw hb3
                    clear hx hres hP hbw hb3 ho3 hnc3 hin3 x0 x1 x2
                    have r0 := hx3.cell 0
                    have r1 := hx3.cell 1
                    have r2 := hx3.cell 2
                    simp [sgC] at r0 r1 r2
                    have q0 := hres3.cell 0
                    have q1 := hres3.cell 1
                    have q2 := hres3.cell 2
                    simp at q0 q1 q2
                    have hfz := hres3.frozen
                    have z := set3 hres3 (.int .i64 fi) (.slice A2 m c2) (.int .i64 (at_ : Int))
                    have HZ := Lib.hid z
                    have HPR := Lib.hid (((hP3.store (g := w.heap.size) (by omega) (HPW.out) 0 (.int .i64 fi)).store (g := w.heap.size) (by omega) (HPW.out) 1 (.slice A2 m c2)).store (g := w.heap.size) (by omega) (HPW.out) 2 (.int .i64 (at_ : Int)))
                    have BF := Lib.hid (((B3.setCell (p := ⟨w.heap.size, 0, none⟩) (Nat.le_refl _) (.int .i64 fi)).setCell (p := ⟨w.heap.size, 1, none⟩) (Nat.le_refl _) (.slice A2 m c2)).setCell (p := ⟨w.heap.size, 2, none⟩) (Nat.le_refl _) (.int .i64 (at_ : Int)))
                    clear z hres3 hx3 hP3
                    go_wp2_with fail
                    have z0 := HZ.out.cell 0
                    have z1 := HZ.out.cell 1
                    have z2 := HZ.out.cell 2
                    simp at z0 z1 z2
                    have he := HE.out
                    injection he with he1 he2
                    exact bodyPost_ret (v := .tuple #[.agg #[.int .i64 fi, .slice A2 m c2, .int .i64 (at_ : Int)], .bool true]) (by simp [results, Tryz.results9, go_sem, z0, z1, z2]) rfl ⟨A2, m, c2, ps, by rw [he2]; rfl, HPR.out.base (by omega), by rw [he1], BF.out⟩
              · have hm2 : m = 64 := by omega
                have HE : Hid ((tot.1, u + tot.2) = (ps.map Part.l, at_)) := Lib.hid (by rw [HR.out, hm2]; simp [readR])
                have d0 : decide ((m : Int) < 64) = false := by simp; omega
                have hx3 := hx
                have hres3 := hres
                have hP3 := hP
                have B3 := hbw
                clear hx hres hP hbw x0 x1 x2 HR hm2
                have r0 := hx3.cell 0
                have r1 := hx3.cell 1
                have r2 := hx3.cell 2
                simp [sgC] at r0 r1 r2
                have q0 := hres3.cell 0
                have q1 := hres3.cell 1
                have q2 := hres3.cell 2
                simp at q0 q1 q2
                have hfz := hres3.frozen
                have z := set3 hres3 (.int .i64 fi) (.slice A2 m c2) (.int .i64 (at_ : Int))
                have HZ := Lib.hid z
                have HPR := Lib.hid (((hP3.store (g := w.heap.size) (by omega) (HPW.out) 0 (.int .i64 fi)).store (g := w.heap.size) (by omega) (HPW.out) 1 (.slice A2 m c2)).store (g := w.heap.size) (by omega) (HPW.out) 2 (.int .i64 (at_ : Int)))
                have BF := Lib.hid (((B3.setCell (p := ⟨w.heap.size, 0, none⟩) (Nat.le_refl _) (.int .i64 fi)).setCell (p := ⟨w.heap.size, 1, none⟩) (Nat.le_refl _) (.slice A2 m c2)).setCell (p := ⟨w.heap.size, 2, none⟩) (Nat.le_refl _) (.int .i64 (at_ : Int)))
                clear z hres3 hx3 hP3
                go_wp2_with fail
                have z0 := HZ.out.cell 0
                have z1 := HZ.out.cell 1
                have z2 := HZ.out.cell 2
                simp at z0 z1 z2
                have he := HE.out
                injection he with he1 he2
                exact bodyPost_ret (v := .tuple #[.agg #[.int .i64 fi, .slice A2 m c2, .int .i64 (at_ : Int)], .bool true]) (by simp [results, Tryz.results9, go_sem, z0, z1, z2]) rfl ⟨A2, m, c2, ps, by rw [he2]; rfl, HPR.out.base (by omega), by rw [he1], BF.out⟩
end Go.Proofs.YtfepinnfhcjopaaGreatDoor
end
