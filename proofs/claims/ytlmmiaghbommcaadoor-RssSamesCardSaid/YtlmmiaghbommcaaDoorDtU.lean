/-
  Dates of the mail: Mail (printed by gen_dtu.py).
-/
import Derived.Test.YtlmmiaghbommcaaDoorDtM
import Derived.Test.YtlmmiaghbommcaaDoorTak
namespace Go.Proofs.YtlmmiaghbommcaaDoor
open Go.RowKit Go.Nst
set_option maxRecDepth 100000
set_option linter.unusedVariables false
set_option linter.unusedSimpArgs false

/-- the world while a date of the mail is read: the words' row, the reader -/
structure MS (w W : World) (gw gr : Nat) (cs : Array Value) (r : RD) : Prop where
  qq : Blk W gw 9 cs
  rr : Rdd W gr r
  bel : Below w.heap.size w W
  h1 : w.heap.size ≤ gw
  h2 : gw < gr
theorem MS.drew {w W : World} {gw gr : Nat} {cs : Array Value} {r : RD} (h : MS w W gw gr cs r) : MS w W.drew gw gr cs r := ⟨h.qq, h.rr, h.bel.drew, h.h1, h.h2⟩
theorem MS.step {w W W' : World} {gw gr : Nat} {cs : Array Value} {r r' : RD} (h : MS w W gw gr cs r) (h1 : Rdd W' gr r') (h2 : W.grownBy W' (some gr)) : MS w W' gw gr cs r' :=
  ⟨h.qq.grown h2 (by intro e; injection e with e; have := h.h2; omega), h1, below_only h.bel h2 (by have := h.h1; have := h.h2; omega) h.bel.size, h.h1, h.h2⟩
theorem MS.R {w W W' : World} {gw gr : Nat} {cs : Array Value} {r : RD} (h : MS w W gw gr cs r) (h2 : W.grownBy W' (some gr)) : Below gr W W' :=
  below_only (Below.refl gr W) h2 (Nat.le_refl _) (Nat.le_of_lt (Blk.lt h.rr))
theorem MS.alloc {w W : World} {gw gr : Nat} {cs : Array Value} {r : RD} (h : MS w W gw gr cs r) (o : Obj) : MS w (W.alloc o) gw gr cs r ∧ Below gr W (W.alloc o) :=
  ⟨⟨h.qq.alloc o, h.rr.alloc o, bel_alloc h.bel o, h.h1, h.h2⟩, (Below.refl gr W).alloc (Nat.le_of_lt (Blk.lt h.rr)) o⟩
theorem MS.put {w W : World} {gw gr gd : Nat} {cs : Array Value} {r : RD} (h : MS w W gw gr cs r) (hd : gr < gd) (i : Nat) (v : Value) : MS w (W.setCell ⟨gd, i, none⟩ v) gw gr cs r :=
  ⟨Blk.far h.qq (by have := h.h2; simp only; omega) v, Blk.far h.rr (by simp only; omega) v, h.bel.setCell (by have := h.h1; have := h.h2; simp only; omega) v, h.h1, h.h2⟩
theorem MS.put6 {w W : World} {gw gr gd : Nat} {cs : Array Value} {r : RD} (h : MS w W gw gr cs r) (hd : gr < gd) (v0 v1 v2 v3 v4 v5 : Value) : MS w ((((((W.setCell ⟨gd, 0, none⟩ v0).setCell ⟨gd, 1, none⟩ v1).setCell ⟨gd, 2, none⟩ v2).setCell ⟨gd, 3, none⟩ v3).setCell ⟨gd, 4, none⟩ v4).setCell ⟨gd, 5, none⟩ v5) gw gr cs r :=
  (((((h.put hd 0 v0).put hd 1 v1).put hd 2 v2).put hd 3 v3).put hd 4 v4).put hd 5 v5
theorem blk_put6 {W : World} {gd : Nat} {T : TypeId} {c0 c1 c2 c3 c4 c5 : Value} (h : Blk W gd T #[c0, c1, c2, c3, c4, c5]) (v0 v1 v2 v3 v4 v5 : Value) : Blk ((((((W.setCell ⟨gd, 0, none⟩ v0).setCell ⟨gd, 1, none⟩ v1).setCell ⟨gd, 2, none⟩ v2).setCell ⟨gd, 3, none⟩ v3).setCell ⟨gd, 4, none⟩ v4).setCell ⟨gd, 5, none⟩ v5) gd T #[v0, v1, v2, v3, v4, v5] := by
  have := (((((h.set_ 0 v0).set_ 1 v1).set_ 2 v2).set_ 3 v3).set_ 4 v4).set_ 5 v5
  simpa using this
theorem below_put6 {W : World} {gr gd : Nat} (hd : gr < gd) (v0 v1 v2 v3 v4 v5 : Value) : Below gr W ((((((W.setCell ⟨gd, 0, none⟩ v0).setCell ⟨gd, 1, none⟩ v1).setCell ⟨gd, 2, none⟩ v2).setCell ⟨gd, 3, none⟩ v3).setCell ⟨gd, 4, none⟩ v4).setCell ⟨gd, 5, none⟩ v5) := by
  have hle := Nat.le_of_lt hd
  exact ((((((Below.refl gr W).setCell (p := ⟨gd, 0, none⟩) hle v0).setCell (p := ⟨gd, 1, none⟩) hle v1).setCell (p := ⟨gd, 2, none⟩) hle v2).setCell (p := ⟨gd, 3, none⟩) hle v3).setCell (p := ⟨gd, 4, none⟩) hle v4).setCell (p := ⟨gd, 5, none⟩) hle v5
theorem below_realloc4 {B : Nat} {w : World} (o o' : Obj) (h : B ≤ w.heap.size) : Below B (w.alloc o) (w.alloc o') :=
  ⟨rfl, rfl, rfl, by simp, fun i hi => (Below.heap_alloc w o' i (by omega)).trans (Below.heap_alloc w o i (by omega)).symm⟩
theorem MS.max {w W : World} {gw gr : Nat} {cs : Array Value} {r : RD} {m : Int} (h : MS w W gw gr cs r) (hm : w.cell? ⟨0, 0, none⟩ = some (.int .i64 m)) : W.cell? ⟨0, 0, none⟩ = some (.int .i64 m) :=
  (h.bel.cell (World.block_lt_of_cell? w _ hm)).trans hm
theorem five_of {α : Type} {l : List α} (h : l.length = 5) : ∃ a b c d e, l = [a, b, c, d, e] := by
  match l, h with
  | [a, b, c, d, e], _ => exact ⟨a, b, c, d, e, rfl⟩
theorem six_of {α : Type} {l : List α} (h : l.length = 6) : ∃ x a b c d e, l = [x, a, b, c, d, e] := by
  match l, h with
  | [x, a, b, c, d, e], _ => exact ⟨x, a, b, c, d, e, rfl⟩
theorem mail5_len {w : List (List UInt8)} (h : w.length ≠ 5) : mail5C w = none := by
  unfold mail5C
  split
  · simp at h
  · rfl
theorem indexL_ge : ∀ (l : List (List UInt8)) (s : List UInt8), -1 ≤ indexL l s
  | [], _ => by simp [indexL]
  | x :: l, s => by
    have := indexL_ge l s
    unfold indexL
    split
    · omega
    · split <;> omega
theorem indexL_len : ∀ (l : List (List UInt8)) (s : List UInt8), indexL l s ≤ l.length
  | [], _ => by simp [indexL]
  | x :: l, s => by
    have := indexL_len l s
    unfold indexL
    split
    · simp; omega
    · split <;> (simp; omega)
theorem indexL_le (l : List (List UInt8)) (s : List UInt8) : indexL namesM s ≤ 12 := indexL_len namesM s
theorem clock_bd (r : RD) : 0 ≤ (rdClock r).1 ∧ (rdClock r).1 ≤ 400000 := by
  have h1 := dig2_bd r
  have h2 := dig2_bd (rdSign [58] (clk1 r).2).2
  have h3 := dig2_bd (rdSign [58] (clk2 r).2).2
  have e1 : clk1 r = rdDig 2 r := rfl
  have e2 : clk2 r = rdDig 2 (rdSign [58] (clk1 r).2).2 := rfl
  have e3 : 0 ≤ (clk3 r).1 ∧ (clk3 r).1 ≤ 99 := by
    unfold clk3
    split
    · simp
    · exact h3
  rw [← e2] at h2
  rw [← e1] at h1
  unfold rdClock
  simp only
  omega
theorem zoneC_bd (e : List UInt8) : -400000 ≤ (zoneC e).1 ∧ (zoneC e).1 ≤ 400000 := by
  have h := off_bd false ⟨e, false⟩
  unfold zoneC
  cases hz : zoneN e with
  | none => exact h
  | some z =>
    unfold zoneN at hz
    simp only
    (repeat' split at hz) <;> first | (injection hz with hz; omega) | (cases hz)
theorem mail5_at (a b c d e : List UInt8) : mail5C [a, b, c, d, e] = if 1 ≤ a.length ∧ a.length ≤ 2 then
      toldC ⟨[], partB (rdDig a.length ⟨a, false⟩).2 || partB (rdYear ⟨c, false⟩).2 || partB (rdClock ⟨d, false⟩).2 || (zoneC e).2⟩
        ⟨(rdYear ⟨c, false⟩).1, indexL namesM b + 1, (rdDig a.length ⟨a, false⟩).1, (rdClock ⟨d, false⟩).1 / 3600, (rdClock ⟨d, false⟩).1 / 60 % 60, (rdClock ⟨d, false⟩).1 % 60⟩ (zoneC e).1
    else none := rfl
theorem split_lens (b : UInt8) : ∀ l : List UInt8, ∀ p ∈ splitL b l, p.length ≤ l.length
  | [], p, hp => by simp [splitL] at hp; simp [hp]
  | c :: t, p, hp => by
    have ih := split_lens b t
    simp only [splitL] at hp
    split at hp
    · simp at hp
      rcases hp with rfl | hp
      · simp
      · have := ih p hp; simp; omega
    · split at hp
      · simp at hp; simp [hp]
      · rename_i q qs hs
        rw [hs] at ih
        simp at hp
        rcases hp with rfl | hp
        · have := ih q (by simp); simp; omega
        · have := ih p (by simp [hp]); simp; omega
theorem split_call (l : List UInt8) (m : Int) (w : World) (hl : l.length ≤ 100000) (hm : w.cell? ⟨0, 0, none⟩ = some (.int .i64 m)) (n : Nat) (ws : List (List UInt8)) (hw : splitL 32 l = ws) (hn : ws.length = n) :
    Calls Tryd.prog 57 #[.string ⟨l.toArray⟩, .string ⟨#[32]⟩] w fun e w' => e = .returned (.slice (some ⟨w.heap.size, 0, none⟩) n n) ∧ w' = w.alloc (.cells (ws.map fun p => Value.string ⟨p.toArray⟩).toArray 9) := by
  have h := Tryd.strings_Split ⟨l.toArray⟩ ⟨#[32]⟩ m w (by have : (ByteArray.mk l.toArray).size = l.length := rfl; omega) hm (Nat.le_refl 1)
  rw [split_row, split_count, hw, hn] at h
  exact h
set_option maxHeartbeats 16000000 in
theorem mail_any (l : List UInt8) (m : Int) (w : World) (hl : l.length ≤ 100000) (hm : w.cell? ⟨0, 0, none⟩ = some (.int .i64 m)) :
    Calls Tryd.prog 43 #[.string ⟨l.toArray⟩] w (fun e w' => e = .returned (tOut (mailC l)) ∧ Below w.heap.size w w') := by
  obtain ⟨ws, hws⟩ : ∃ ws, splitL 32 l = ws := ⟨_, rfl⟩
  obtain ⟨n, hn⟩ : ∃ n, ws.length = n := ⟨_, rfl⟩
  have HSP := Lib.hid (split_call l m w hl hm n ws hws hn)
  have hlens : ∀ p ∈ ws, p.length ≤ 100000 := fun p hp => by rw [← hws] at hp; have := split_lens 32 l p hp; omega
  have HLN := Lib.hid hlens
  have HMC : Hid (mailC l = mail5C (weekW ws)) := Lib.hid (by unfold mailC; rw [hws])
  clear hws hlens
  generalize mailC l = res at *
  unfold tOut
  obtain ⟨en, hen⟩ : ∃ en : Int, (if res.isSome = true then (0 : Int) else 40) = en := ⟨_, rfl⟩
  obtain ⟨nn, hnn⟩ : ∃ nn : Int, res.getD 0 = nn := ⟨_, rfl⟩
  rw [hen, hnn]
  have HEN := Lib.hid hen
  have HNN := Lib.hid hnn
  clear hen hnn
  by_cases h5 : n = 5
  · subst h5
    obtain ⟨a, b, c, d, e_, rfl⟩ := five_of hn
    have HW : Hid (res = mail5C [a, b, c, d, e_]) := Lib.hid (by rw [HMC.out]; rfl)
    simp only [List.map_cons, List.map_nil] at HSP
    clear HMC hn
    have B0 := bel_alloc (Below.refl w.heap.size w) (.cells #[.string ⟨a.toArray⟩, .string ⟨b.toArray⟩, .string ⟨c.toArray⟩, .string ⟨d.toArray⟩, .string ⟨e_.toArray⟩] 9)
    have hq0 := Blk.new w 9 #[.string ⟨a.toArray⟩, .string ⟨b.toArray⟩, .string ⟨c.toArray⟩, .string ⟨d.toArray⟩, .string ⟨e_.toArray⟩]
    go_enter Tryd.func43, Tryd.ntmps43
    go_wp2_with fail
    (with_reducible refine (HSP.out).mono ?_)
    rintro e w1 ⟨rfl, rfl⟩
    go_wp2_with fail
    have HWI := Lib.hid (fun W => within_any (a.length : Int) 1 2 W)
    by_cases ha : 1 ≤ a.length ∧ a.length ≤ 2
    case neg =>
      have hr0 : res = none := by rw [HW.out, mail5_at, if_neg ha]
      have hen := HEN.out
      have hnn := HNN.out
      rw [hr0] at hen hnn
      simp at hen hnn
      subst hen hnn
      clear hr0
      have hwv : (decide (1 ≤ (a.length : Int)) && decide ((a.length : Int) ≤ 2)) = false := by
        rw [Bool.and_eq_false_iff]
        simp
        omega
      rw [hwv] at HWI
      (with_reducible refine (HWI.out _).mono ?_)
      rintro e w2 ⟨rfl, rfl⟩
      go_wp2_with fail
      go_ret2
      exact ⟨rfl, B0⟩
    case pos =>
      have hwv : (decide (1 ≤ (a.length : Int)) && decide ((a.length : Int) ≤ 2)) = true := by
        rw [Bool.and_eq_true]
        simp
        omega
      rw [hwv] at HWI
      clear hwv
      (with_reducible refine (HWI.out _).mono ?_)
      rintro e w2 ⟨rfl, rfl⟩
      clear HWI
      go_wp2_with fail
      have ha9 : a.length ≤ 9 := by omega
      have hw2 := HW.out
      rw [mail5_at, if_pos ha] at hw2
      clear HW
      have HW := Lib.hid hw2
      clear ha hw2
      have hS : MS w ((w.alloc (.cells #[.string ⟨a.toArray⟩, .string ⟨b.toArray⟩, .string ⟨c.toArray⟩, .string ⟨d.toArray⟩, .string ⟨e_.toArray⟩] 9)).alloc (.cells #[.string ⟨#[]⟩, .bool false] 97)) w.heap.size (w.heap.size + 1) #[.string ⟨a.toArray⟩, .string ⟨b.toArray⟩, .string ⟨c.toArray⟩, .string ⟨d.toArray⟩, .string ⟨e_.toArray⟩] ⟨[], false⟩ := by
        refine ⟨hq0.alloc _, ?_, bel_alloc B0 _, Nat.le_refl _, Nat.lt_succ_self _⟩
        have := Blk.new (w.alloc (.cells #[.string ⟨a.toArray⟩, .string ⟨b.toArray⟩, .string ⟨c.toArray⟩, .string ⟨d.toArray⟩, .string ⟨e_.toArray⟩] 9)) 97 #[.string ⟨#[]⟩, .bool false]
        simpa [Rdd] using this
      obtain ⟨gr, hgr⟩ : ∃ gr, gr = w.heap.size + 1 := ⟨_, rfl⟩
      rw [← hgr] at hS
      simp only [← hgr]
      generalize (w.alloc (.cells #[.string ⟨a.toArray⟩, .string ⟨b.toArray⟩, .string ⟨c.toArray⟩, .string ⟨d.toArray⟩, .string ⟨e_.toArray⟩] 9)).alloc (.cells #[.string ⟨#[]⟩, .bool false] 97) = w0 at *
      clear hgr hq0 B0
      have hS := hS.drew
      refine wp_region_alt (Below gr) (Below.refl gr) (fun _ _ _ h k => h.trans k) (by kernel_rfl) 15 [(16, false)] [(0, true), (1, true), (2, true), (3, true), (5, true), (6, true), (7, true), (9, true), (10, true), (11, true), (12, true), (4, false), (8, false), (13, false), (14, true)] (by kernel_rfl) rfl (by kernel_rfl) ?_
      generalize w0.drew = w7 at *
      have cq : ∀ W, Below gr w7 W → Blk W w.heap.size 9 #[.string ⟨a.toArray⟩, .string ⟨b.toArray⟩, .string ⟨c.toArray⟩, .string ⟨d.toArray⟩, .string ⟨e_.toArray⟩] := fun W hW => hS.qq.below hW hS.h2
      have c0 := fun W (hW : Below gr w7 W) => (show W.cell? ⟨w.heap.size, 0, none⟩ = some (.string ⟨a.toArray⟩) from ((cq W hW).cell 0).trans rfl)
      have c1 := fun W (hW : Below gr w7 W) => (show W.cell? ⟨w.heap.size, 1, none⟩ = some (.string ⟨b.toArray⟩) from ((cq W hW).cell 1).trans rfl)
      have c2 := fun W (hW : Below gr w7 W) => (show W.cell? ⟨w.heap.size, 2, none⟩ = some (.string ⟨c.toArray⟩) from ((cq W hW).cell 2).trans rfl)
      iterate 11 (refine wpAltR_take (o := ⟨_, _, _, _, _, _⟩) (v := ?_) rfl rfl ?_ ?_; rotate_left; (focus (intro W hW; go_simp; first | done | with_reducible rfl)); simp only [Act.put, List.setIfInBounds_toArray, List.set_cons_zero, List.set_cons_succ])
      clear c0 c1 c2 cq
      have HA := Lib.hid (fun (W : World) (g : Nat) (r : RD) (h : Rdd W g r) => part_day g r a (rdDig a.length ⟨a, false⟩).1 (rdDig a.length ⟨a, false⟩).2 W h (fun W g' h => rd_mail1 g' ⟨a, false⟩ W h (by simp only; omega)))
      have HM := Lib.hid (fun (W : World) (h : W.cell? ⟨0, 0, none⟩ = some (.int .i64 m)) => month_any b m W (HLN.out b (by simp)) h)
      have HY := Lib.hid (fun (W : World) (g : Nat) (r : RD) (h : Rdd W g r) => part_year g r c (rdYear ⟨c, false⟩).1 (rdYear ⟨c, false⟩).2 W h (fun W g' h => rd_year g' ⟨c, false⟩ W h (HLN.out c (by simp))))
      have HC := Lib.hid (fun (W : World) (g : Nat) (r : RD) (h : Rdd W g r) => part_clock g r d (rdClock ⟨d, false⟩).1 (rdClock ⟨d, false⟩).2 W h (fun W g' h => rd_clock g' ⟨d, false⟩ W h (HLN.out d (by simp))))
      have HNM := Lib.hid (fun (W : World) => named_any e_ W)
      have HZB := Lib.hid (zoneC_bd e_)
      have hcb := clock_bd ⟨d, false⟩
      have hvb : -1 ≤ indexL namesM b := indexL_ge namesM b
      have hvb2 : indexL namesM b ≤ 12 := indexL_le namesM b
      generalize rdDig a.length ⟨a, false⟩ = qa at *
      generalize rdClock ⟨d, false⟩ = qc at *
      obtain ⟨vc, rc⟩ := qc
      generalize rdYear ⟨c, false⟩ = qy at *
      obtain ⟨va, ra⟩ := qa
      obtain ⟨vy, ry⟩ := qy
      obtain ⟨vm, hvm⟩ : ∃ vm, indexL namesM b + 1 = vm := ⟨_, rfl⟩
      rw [hvm] at HM HW
      have hvm0 : 0 ≤ vm := by omega
      have hvm1 : vm ≤ 13 := by omega
      clear hvm hvb hvb2
      simp only at HA HY HW HC hcb
      have k1 : IntKind.i64.wrap (vc / 3600) = vc / 3600 := IntWalk.i64_in _ (by omega)
      have k2 : IntKind.i64.wrap (vc / 60) = vc / 60 := IntWalk.i64_in _ (by omega)
      have k3 : (vc / 60).tmod 60 = vc / 60 % 60 := Int.tmod_eq_emod_of_nonneg (by omega)
      have k4 : vc.tmod 60 = vc % 60 := Int.tmod_eq_emod_of_nonneg (by omega)
      have k5 : vc.tdiv 3600 = vc / 3600 := Int.tdiv_eq_ediv_of_nonneg (by omega)
      have k6 : vc.tdiv 60 = vc / 60 := Int.tdiv_eq_ediv_of_nonneg (by omega)
      refine wpAltR_exec (o := ⟨_, _, _, _, _, _⟩) (ok := ⟨_, _, _, _, _, _⟩) rfl rfl rfl rfl (fun K hK => ?_) (fun K hK => ?_)
      · go_simp
        (with_reducible refine (HA.out w7 gr _ hS.rr).mono ?_)
        rintro e x0 ⟨rfl, hR, hg⟩
        have hS0 := hS.step hR hg
        have hB := hS.R hg
        go_wp2_with fail
        refine hK _ _ hB ?_
        clear hK K hB
        refine wpAltR_exec (o := ⟨_, _, _, _, _, _⟩) (ok := ⟨_, _, _, _, _, _⟩) rfl rfl rfl rfl (fun K hK => ?_) (fun K hK => ?_)
        · go_simp
          (with_reducible refine (HM.out x0 (hS0.max hm)).mono ?_)
          rintro e x1 ⟨rfl, rfl⟩
          have hS1 := hS0
          have hB := Below.refl gr x0
          go_wp2_with fail
          refine hK _ _ hB ?_
          clear hK K hB
          refine wpAltR_exec (o := ⟨_, _, _, _, _, _⟩) (ok := ⟨_, _, _, _, _, _⟩) rfl rfl rfl rfl (fun K hK => ?_) (fun K hK => ?_)
          · go_simp
            (with_reducible refine (HY.out x0 gr _ hS1.rr).mono ?_)
            rintro e x2 ⟨rfl, hR, hg⟩
            have hS2 := hS1.step hR hg
            have hB := hS1.R hg
            go_wp2_with fail
            refine hK _ _ hB ?_
            clear hK K hB
            iterate 1 (refine wpAltR_take (o := ⟨_, _, _, _, _, _⟩) (v := ?_) rfl rfl ?_ ?_; rotate_left; (focus (intro W hW; go_simp; first | done | with_reducible rfl)); simp only [Act.put, List.setIfInBounds_toArray, List.set_cons_zero, List.set_cons_succ])
            refine wpAltR_last (ok := ⟨_, _, _, _, _, _⟩) rfl rfl (fun K hK => ?_)
            go_simp
            refine hK _ _ (hS2.alloc (.cells #[.int .i64 0, .int .i64 0, .int .i64 0, .int .i64 0, .int .i64 0, .int .i64 0] 99)).2 ?_
            clear hK K
            refine wpSeqR_exec (o := ⟨_, _, _, _, _, _⟩) rfl rfl (fun K hK => ?_)
            go_simp
            refine hK _ _ (below_realloc4 _ _ (Nat.le_of_lt (Blk.lt hS2.rr))) ?_
            clear hK K
            obtain ⟨gd, hgd⟩ : ∃ gd, gd = x2.heap.size := ⟨_, rfl⟩
            have hE := Blk.new x2 99 #[.int .i64 vy, .int .i64 vm, .int .i64 va, .int .i64 0, .int .i64 0, .int .i64 0]
            have hlt : gr < gd := by rw [hgd]; exact Blk.lt hS2.rr
            have hF := (hS2.alloc (.cells #[.int .i64 vy, .int .i64 vm, .int .i64 va, .int .i64 0, .int .i64 0, .int .i64 0] 99)).1
            rw [← hgd] at hE
            simp only [← hgd]
            generalize x2.alloc (.cells #[.int .i64 vy, .int .i64 vm, .int .i64 va, .int .i64 0, .int .i64 0, .int .i64 0] 99) = xf at *
            clear hgd
            refine wpSeqR_nil ?_
            have q3 := hF.qq.cell 3
            simp at q3
            go_wp2_with fail
            (with_reducible refine (HC.out xf gr _ hF.rr).mono ?_)
            rintro e y1 ⟨rfl, hR, hg⟩
            have hG := hF.step hR hg
            have hE1 := hE.grown hg (by intro e; injection e with e; omega)
            clear hR hg hF hE q3
            have f0 := hE1.frozen
            have g3 := hE1.cell 3
            have g4 := hE1.cell 4
            have g5 := hE1.cell 5
            simp at g3 g4 g5
            have hI := ((hG.put hlt 3 (.int .i64 (vc / 3600))).put hlt 4 (.int .i64 (vc / 60 % 60))).put hlt 5 (.int .i64 (vc % 60))
            have hJ : Blk (((y1.setCell ⟨gd, 3, none⟩ (.int .i64 (vc / 3600))).setCell ⟨gd, 4, none⟩ (.int .i64 (vc / 60 % 60))).setCell ⟨gd, 5, none⟩ (.int .i64 (vc % 60))) gd 99 #[.int .i64 vy, .int .i64 vm, .int .i64 va, .int .i64 (vc / 3600), .int .i64 (vc / 60 % 60), .int .i64 (vc % 60)] := by
              have := ((hE1.set_ 3 (.int .i64 (vc / 3600))).set_ 4 (.int .i64 (vc / 60 % 60))).set_ 5 (.int .i64 (vc % 60))
              simpa using this
            have q4 := hI.qq.cell 4
            simp at q4
            clear hG hE1
            go_wp2_with fail
            clear g3 g4 g5 f0
            generalize ((y1.setCell ⟨gd, 3, none⟩ (.int .i64 (vc / 3600))).setCell ⟨gd, 4, none⟩ (.int .i64 (vc / 60 % 60))).setCell ⟨gd, 5, none⟩ (.int .i64 (vc % 60)) = y2 at *
            (with_reducible refine (HNM.out y2).mono ?_)
            rintro e y3 ⟨rfl, rfl⟩
            cases hz : zoneN e_ with
            | some z =>
              have hzc : zoneC e_ = (z, false) := by unfold zoneC; rw [hz]
              rw [hzc] at HW HZB
              have hT := rd_told gr _ ⟨vy, vm, va, vc / 3600, vc / 60 % 60, vc % 60⟩ z y2 hI.rr (by have := HZB.out.1; simp only at this; omega) (by have := HZB.out.2; simp only at this; omega) (by simp only; omega) (by simp only; omega)
              simp only [Bool.false_or] at hT
              simp only [Bool.or_false] at HW
              rw [← HW.out] at hT
              simp only [Dt.val, Dt.cells, tOut, HEN.out, HNN.out] at hT
              have HT := Lib.hid hT
              clear hT
              simp only [znV, Option.getD_some, Option.isSome_some]
              have j0 := hJ.cell 0
              have j1 := hJ.cell 1
              have j2 := hJ.cell 2
              have j3 := hJ.cell 3
              have j4 := hJ.cell 4
              have j5 := hJ.cell 5
              simp at j0 j1 j2 j3 j4 j5
              clear hz hzc
              go_wp2_with fail
              (with_reducible refine (HT.out).mono ?_)
              rintro e y4 ⟨rfl, hb⟩
              go_wp2_with fail
              go_ret2
              exact ⟨rfl, bel_step hI.bel hb⟩
            | none =>
              have hzc : zoneC e_ = ((rdOff false ⟨e_, false⟩).1, partB (rdOff false ⟨e_, false⟩).2) := by unfold zoneC; rw [hz]
              rw [hzc] at HW HZB
              have HOF := Lib.hid (fun (W : World) (g : Nat) (r : RD) (h : Rdd W g r) => part_off g r e_ (rdOff false ⟨e_, false⟩).1 (rdOff false ⟨e_, false⟩).2 W h (fun W g' h => rd_mail2 g' ⟨e_, false⟩ W h (HLN.out e_ (by simp))))
              clear hzc hz
              generalize rdOff false ⟨e_, false⟩ = qo at *
              obtain ⟨zo, ro⟩ := qo
              simp only at HOF HW HZB
              simp only [znV, Option.getD_none, Option.isSome_none]
              go_wp2_with fail
              (with_reducible refine (HOF.out y2 gr _ hI.rr).mono ?_)
              rintro e y4 ⟨rfl, hR, hg⟩
              have hL := hI.step hR hg
              have hJ2 := hJ.grown hg (by intro e; injection e with e; omega)
              have hT := rd_told gr _ ⟨vy, vm, va, vc / 3600, vc / 60 % 60, vc % 60⟩ zo y4 hL.rr (by have := HZB.out.1; omega) (by have := HZB.out.2; omega) (by simp only; omega) (by simp only; omega)
              simp only [Bool.false_or] at hT
              rw [← HW.out] at hT
              simp only [Dt.val, Dt.cells, tOut, HEN.out, HNN.out] at hT
              have HT := Lib.hid hT
              have j0 := hJ2.cell 0
              have j1 := hJ2.cell 1
              have j2 := hJ2.cell 2
              have j3 := hJ2.cell 3
              have j4 := hJ2.cell 4
              have j5 := hJ2.cell 5
              simp at j0 j1 j2 j3 j4 j5
              clear hT hR hg hI hJ q4 hJ2
              go_wp2_with fail
              (with_reducible refine (HT.out).mono ?_)
              rintro e y5 ⟨rfl, hb⟩
              go_wp2_with fail
              go_ret2
              exact ⟨rfl, bel_step hL.bel hb⟩
          · go_simp
            refine hK _ _ (hS1.alloc (.cells #[.int .i64 0, .int .i64 0, .int .i64 0, .int .i64 0, .int .i64 0, .int .i64 0] 99)).2 ?_
            clear hK K
            simp only [List.cons_append, List.nil_append]
            have hS3 := (hS1.alloc (.cells #[.int .i64 0, .int .i64 0, .int .i64 0, .int .i64 0, .int .i64 0, .int .i64 0] 99)).1
            obtain ⟨gd, hgd⟩ : ∃ gd, gd = x0.heap.size := ⟨_, rfl⟩
            have hD := Blk.new x0 99 #[.int .i64 0, .int .i64 0, .int .i64 0, .int .i64 0, .int .i64 0, .int .i64 0]
            have hlt : gr < gd := by rw [hgd]; exact Blk.lt hS1.rr
            rw [← hgd] at hD
            simp only [← hgd]
            generalize x0.alloc (.cells #[.int .i64 0, .int .i64 0, .int .i64 0, .int .i64 0, .int .i64 0, .int .i64 0] 99) = x3 at *
            clear hgd
            refine wpSeqR_exec (o := ⟨_, _, _, _, _, _⟩) rfl rfl (fun K hK => ?_)
            go_simp
            (with_reducible refine (HY.out x3 gr _ hS3.rr).mono ?_)
            rintro e x4 ⟨rfl, hR, hg⟩
            have hS4 := hS3.step hR hg
            have hB := hS3.R hg
            have hD := hD.grown hg (by intro e; injection e with e; omega)
            go_wp2_with fail
            refine hK _ _ hB ?_
            clear hK K hB
            iterate 1 (refine wpSeqR_take (o := ⟨_, _, _, _, _, _⟩) (v := ?_) rfl rfl ?_ ?_; rotate_left; (focus (intro W hW; go_simp; first | done | with_reducible rfl)); simp only [Act.put, List.setIfInBounds_toArray, List.set_cons_zero, List.set_cons_succ])
            have d0 := hD.cell 0
            have d1 := hD.cell 1
            have d2 := hD.cell 2
            have d3 := hD.cell 3
            have d4 := hD.cell 4
            have d5 := hD.cell 5
            simp at d0 d1 d2 d3 d4 d5
            have hfz := hD.frozen
            refine wpSeqR_exec (o := ⟨_, _, _, _, _, _⟩) rfl rfl (fun K hK => ?_)
            go_simp
            refine hK _ _ (below_put6 hlt _ _ _ _ _ _) ?_
            have hE := blk_put6 hD (.int .i64 vy) (.int .i64 vm) (.int .i64 va) (.int .i64 0) (.int .i64 0) (.int .i64 0)
            have hF := hS4.put6 hlt (.int .i64 vy) (.int .i64 vm) (.int .i64 va) (.int .i64 0) (.int .i64 0) (.int .i64 0)
            clear hK K d0 d1 d2 d3 d4 d5 hfz hD
            generalize ((((((x4.setCell ⟨gd, 0, none⟩ (.int .i64 vy)).setCell ⟨gd, 1, none⟩ (.int .i64 vm)).setCell ⟨gd, 2, none⟩ (.int .i64 va)).setCell ⟨gd, 3, none⟩ (.int .i64 0)).setCell ⟨gd, 4, none⟩ (.int .i64 0)).setCell ⟨gd, 5, none⟩ (.int .i64 0)) = xf at *
            refine wpSeqR_nil ?_
            have q3 := hF.qq.cell 3
            simp at q3
            go_wp2_with fail
            (with_reducible refine (HC.out xf gr _ hF.rr).mono ?_)
            rintro e y1 ⟨rfl, hR, hg⟩
            have hG := hF.step hR hg
            have hE1 := hE.grown hg (by intro e; injection e with e; omega)
            clear hR hg hF hE q3
            have f0 := hE1.frozen
            have g3 := hE1.cell 3
            have g4 := hE1.cell 4
            have g5 := hE1.cell 5
            simp at g3 g4 g5
            have hI := ((hG.put hlt 3 (.int .i64 (vc / 3600))).put hlt 4 (.int .i64 (vc / 60 % 60))).put hlt 5 (.int .i64 (vc % 60))
            have hJ : Blk (((y1.setCell ⟨gd, 3, none⟩ (.int .i64 (vc / 3600))).setCell ⟨gd, 4, none⟩ (.int .i64 (vc / 60 % 60))).setCell ⟨gd, 5, none⟩ (.int .i64 (vc % 60))) gd 99 #[.int .i64 vy, .int .i64 vm, .int .i64 va, .int .i64 (vc / 3600), .int .i64 (vc / 60 % 60), .int .i64 (vc % 60)] := by
              have := ((hE1.set_ 3 (.int .i64 (vc / 3600))).set_ 4 (.int .i64 (vc / 60 % 60))).set_ 5 (.int .i64 (vc % 60))
              simpa using this
            have q4 := hI.qq.cell 4
            simp at q4
            clear hG hE1
            go_wp2_with fail
            clear g3 g4 g5 f0
            generalize ((y1.setCell ⟨gd, 3, none⟩ (.int .i64 (vc / 3600))).setCell ⟨gd, 4, none⟩ (.int .i64 (vc / 60 % 60))).setCell ⟨gd, 5, none⟩ (.int .i64 (vc % 60)) = y2 at *
            (with_reducible refine (HNM.out y2).mono ?_)
            rintro e y3 ⟨rfl, rfl⟩
            cases hz : zoneN e_ with
            | some z =>
              have hzc : zoneC e_ = (z, false) := by unfold zoneC; rw [hz]
              rw [hzc] at HW HZB
              have hT := rd_told gr _ ⟨vy, vm, va, vc / 3600, vc / 60 % 60, vc % 60⟩ z y2 hI.rr (by have := HZB.out.1; simp only at this; omega) (by have := HZB.out.2; simp only at this; omega) (by simp only; omega) (by simp only; omega)
              simp only [Bool.false_or] at hT
              simp only [Bool.or_false] at HW
              rw [← HW.out] at hT
              simp only [Dt.val, Dt.cells, tOut, HEN.out, HNN.out] at hT
              have HT := Lib.hid hT
              clear hT
              simp only [znV, Option.getD_some, Option.isSome_some]
              have j0 := hJ.cell 0
              have j1 := hJ.cell 1
              have j2 := hJ.cell 2
              have j3 := hJ.cell 3
              have j4 := hJ.cell 4
              have j5 := hJ.cell 5
              simp at j0 j1 j2 j3 j4 j5
              clear hz hzc
              go_wp2_with fail
              (with_reducible refine (HT.out).mono ?_)
              rintro e y4 ⟨rfl, hb⟩
              go_wp2_with fail
              go_ret2
              exact ⟨rfl, bel_step hI.bel hb⟩
            | none =>
              have hzc : zoneC e_ = ((rdOff false ⟨e_, false⟩).1, partB (rdOff false ⟨e_, false⟩).2) := by unfold zoneC; rw [hz]
              rw [hzc] at HW HZB
              have HOF := Lib.hid (fun (W : World) (g : Nat) (r : RD) (h : Rdd W g r) => part_off g r e_ (rdOff false ⟨e_, false⟩).1 (rdOff false ⟨e_, false⟩).2 W h (fun W g' h => rd_mail2 g' ⟨e_, false⟩ W h (HLN.out e_ (by simp))))
              clear hzc hz
              generalize rdOff false ⟨e_, false⟩ = qo at *
              obtain ⟨zo, ro⟩ := qo
              simp only at HOF HW HZB
              simp only [znV, Option.getD_none, Option.isSome_none]
              go_wp2_with fail
              (with_reducible refine (HOF.out y2 gr _ hI.rr).mono ?_)
              rintro e y4 ⟨rfl, hR, hg⟩
              have hL := hI.step hR hg
              have hJ2 := hJ.grown hg (by intro e; injection e with e; omega)
              have hT := rd_told gr _ ⟨vy, vm, va, vc / 3600, vc / 60 % 60, vc % 60⟩ zo y4 hL.rr (by have := HZB.out.1; omega) (by have := HZB.out.2; omega) (by simp only; omega) (by simp only; omega)
              simp only [Bool.false_or] at hT
              rw [← HW.out] at hT
              simp only [Dt.val, Dt.cells, tOut, HEN.out, HNN.out] at hT
              have HT := Lib.hid hT
              have j0 := hJ2.cell 0
              have j1 := hJ2.cell 1
              have j2 := hJ2.cell 2
              have j3 := hJ2.cell 3
              have j4 := hJ2.cell 4
              have j5 := hJ2.cell 5
              simp at j0 j1 j2 j3 j4 j5
              clear hT hR hg hI hJ q4 hJ2
              go_wp2_with fail
              (with_reducible refine (HT.out).mono ?_)
              rintro e y5 ⟨rfl, hb⟩
              go_wp2_with fail
              go_ret2
              exact ⟨rfl, bel_step hL.bel hb⟩
        · go_simp
          refine hK _ _ (hS0.alloc (.cells #[.int .i64 0, .int .i64 0, .int .i64 0, .int .i64 0, .int .i64 0, .int .i64 0] 99)).2 ?_
          clear hK K
          simp only [List.cons_append, List.nil_append]
          have hS5 := (hS0.alloc (.cells #[.int .i64 0, .int .i64 0, .int .i64 0, .int .i64 0, .int .i64 0, .int .i64 0] 99)).1
          obtain ⟨gd, hgd⟩ : ∃ gd, gd = x0.heap.size := ⟨_, rfl⟩
          have hD := Blk.new x0 99 #[.int .i64 0, .int .i64 0, .int .i64 0, .int .i64 0, .int .i64 0, .int .i64 0]
          have hlt : gr < gd := by rw [hgd]; exact Blk.lt hS0.rr
          rw [← hgd] at hD
          simp only [← hgd]
          generalize x0.alloc (.cells #[.int .i64 0, .int .i64 0, .int .i64 0, .int .i64 0, .int .i64 0, .int .i64 0] 99) = x5 at *
          clear hgd
          refine wpSeqR_exec (o := ⟨_, _, _, _, _, _⟩) rfl rfl (fun K hK => ?_)
          go_simp
          (with_reducible refine (HM.out x5 (hS5.max hm)).mono ?_)
          rintro e x6 ⟨rfl, rfl⟩
          have hS6 := hS5
          have hB := Below.refl gr x5
          go_wp2_with fail
          refine hK _ _ hB ?_
          clear hK K hB
          refine wpSeqR_exec (o := ⟨_, _, _, _, _, _⟩) rfl rfl (fun K hK => ?_)
          go_simp
          (with_reducible refine (HY.out x5 gr _ hS6.rr).mono ?_)
          rintro e x7 ⟨rfl, hR, hg⟩
          have hS7 := hS6.step hR hg
          have hB := hS6.R hg
          have hD := hD.grown hg (by intro e; injection e with e; omega)
          go_wp2_with fail
          refine hK _ _ hB ?_
          clear hK K hB
          iterate 1 (refine wpSeqR_take (o := ⟨_, _, _, _, _, _⟩) (v := ?_) rfl rfl ?_ ?_; rotate_left; (focus (intro W hW; go_simp; first | done | with_reducible rfl)); simp only [Act.put, List.setIfInBounds_toArray, List.set_cons_zero, List.set_cons_succ])
          have d0 := hD.cell 0
          have d1 := hD.cell 1
          have d2 := hD.cell 2
          have d3 := hD.cell 3
          have d4 := hD.cell 4
          have d5 := hD.cell 5
          simp at d0 d1 d2 d3 d4 d5
          have hfz := hD.frozen
          refine wpSeqR_exec (o := ⟨_, _, _, _, _, _⟩) rfl rfl (fun K hK => ?_)
          go_simp
          refine hK _ _ (below_put6 hlt _ _ _ _ _ _) ?_
          have hE := blk_put6 hD (.int .i64 vy) (.int .i64 vm) (.int .i64 va) (.int .i64 0) (.int .i64 0) (.int .i64 0)
          have hF := hS7.put6 hlt (.int .i64 vy) (.int .i64 vm) (.int .i64 va) (.int .i64 0) (.int .i64 0) (.int .i64 0)
          clear hK K d0 d1 d2 d3 d4 d5 hfz hD
          generalize ((((((x7.setCell ⟨gd, 0, none⟩ (.int .i64 vy)).setCell ⟨gd, 1, none⟩ (.int .i64 vm)).setCell ⟨gd, 2, none⟩ (.int .i64 va)).setCell ⟨gd, 3, none⟩ (.int .i64 0)).setCell ⟨gd, 4, none⟩ (.int .i64 0)).setCell ⟨gd, 5, none⟩ (.int .i64 0)) = xf at *
          refine wpSeqR_nil ?_
          have q3 := hF.qq.cell 3
          simp at q3
          go_wp2_with fail
          (with_reducible refine (HC.out xf gr _ hF.rr).mono ?_)
          rintro e y1 ⟨rfl, hR, hg⟩
          have hG := hF.step hR hg
          have hE1 := hE.grown hg (by intro e; injection e with e; omega)
          clear hR hg hF hE q3
          have f0 := hE1.frozen
          have g3 := hE1.cell 3
          have g4 := hE1.cell 4
          have g5 := hE1.cell 5
          simp at g3 g4 g5
          have hI := ((hG.put hlt 3 (.int .i64 (vc / 3600))).put hlt 4 (.int .i64 (vc / 60 % 60))).put hlt 5 (.int .i64 (vc % 60))
          have hJ : Blk (((y1.setCell ⟨gd, 3, none⟩ (.int .i64 (vc / 3600))).setCell ⟨gd, 4, none⟩ (.int .i64 (vc / 60 % 60))).setCell ⟨gd, 5, none⟩ (.int .i64 (vc % 60))) gd 99 #[.int .i64 vy, .int .i64 vm, .int .i64 va, .int .i64 (vc / 3600), .int .i64 (vc / 60 % 60), .int .i64 (vc % 60)] := by
            have := ((hE1.set_ 3 (.int .i64 (vc / 3600))).set_ 4 (.int .i64 (vc / 60 % 60))).set_ 5 (.int .i64 (vc % 60))
            simpa using this
          have q4 := hI.qq.cell 4
          simp at q4
          clear hG hE1
          go_wp2_with fail
          clear g3 g4 g5 f0
          generalize ((y1.setCell ⟨gd, 3, none⟩ (.int .i64 (vc / 3600))).setCell ⟨gd, 4, none⟩ (.int .i64 (vc / 60 % 60))).setCell ⟨gd, 5, none⟩ (.int .i64 (vc % 60)) = y2 at *
          (with_reducible refine (HNM.out y2).mono ?_)
          rintro e y3 ⟨rfl, rfl⟩
          cases hz : zoneN e_ with
          | some z =>
            have hzc : zoneC e_ = (z, false) := by unfold zoneC; rw [hz]
            rw [hzc] at HW HZB
            have hT := rd_told gr _ ⟨vy, vm, va, vc / 3600, vc / 60 % 60, vc % 60⟩ z y2 hI.rr (by have := HZB.out.1; simp only at this; omega) (by have := HZB.out.2; simp only at this; omega) (by simp only; omega) (by simp only; omega)
            simp only [Bool.false_or] at hT
            simp only [Bool.or_false] at HW
            rw [← HW.out] at hT
            simp only [Dt.val, Dt.cells, tOut, HEN.out, HNN.out] at hT
            have HT := Lib.hid hT
            clear hT
            simp only [znV, Option.getD_some, Option.isSome_some]
            have j0 := hJ.cell 0
            have j1 := hJ.cell 1
            have j2 := hJ.cell 2
            have j3 := hJ.cell 3
            have j4 := hJ.cell 4
            have j5 := hJ.cell 5
            simp at j0 j1 j2 j3 j4 j5
            clear hz hzc
            go_wp2_with fail
            (with_reducible refine (HT.out).mono ?_)
            rintro e y4 ⟨rfl, hb⟩
            go_wp2_with fail
            go_ret2
            exact ⟨rfl, bel_step hI.bel hb⟩
          | none =>
            have hzc : zoneC e_ = ((rdOff false ⟨e_, false⟩).1, partB (rdOff false ⟨e_, false⟩).2) := by unfold zoneC; rw [hz]
            rw [hzc] at HW HZB
            have HOF := Lib.hid (fun (W : World) (g : Nat) (r : RD) (h : Rdd W g r) => part_off g r e_ (rdOff false ⟨e_, false⟩).1 (rdOff false ⟨e_, false⟩).2 W h (fun W g' h => rd_mail2 g' ⟨e_, false⟩ W h (HLN.out e_ (by simp))))
            clear hzc hz
            generalize rdOff false ⟨e_, false⟩ = qo at *
            obtain ⟨zo, ro⟩ := qo
            simp only at HOF HW HZB
            simp only [znV, Option.getD_none, Option.isSome_none]
            go_wp2_with fail
            (with_reducible refine (HOF.out y2 gr _ hI.rr).mono ?_)
            rintro e y4 ⟨rfl, hR, hg⟩
            have hL := hI.step hR hg
            have hJ2 := hJ.grown hg (by intro e; injection e with e; omega)
            have hT := rd_told gr _ ⟨vy, vm, va, vc / 3600, vc / 60 % 60, vc % 60⟩ zo y4 hL.rr (by have := HZB.out.1; omega) (by have := HZB.out.2; omega) (by simp only; omega) (by simp only; omega)
            simp only [Bool.false_or] at hT
            rw [← HW.out] at hT
            simp only [Dt.val, Dt.cells, tOut, HEN.out, HNN.out] at hT
            have HT := Lib.hid hT
            have j0 := hJ2.cell 0
            have j1 := hJ2.cell 1
            have j2 := hJ2.cell 2
            have j3 := hJ2.cell 3
            have j4 := hJ2.cell 4
            have j5 := hJ2.cell 5
            simp at j0 j1 j2 j3 j4 j5
            clear hT hR hg hI hJ q4 hJ2
            go_wp2_with fail
            (with_reducible refine (HT.out).mono ?_)
            rintro e y5 ⟨rfl, hb⟩
            go_wp2_with fail
            go_ret2
            exact ⟨rfl, bel_step hL.bel hb⟩
      · go_simp
        refine hK _ _ (hS.alloc (.cells #[.int .i64 0, .int .i64 0, .int .i64 0, .int .i64 0, .int .i64 0, .int .i64 0] 99)).2 ?_
        clear hK K
        simp only [List.cons_append, List.nil_append]
        have hS8 := (hS.alloc (.cells #[.int .i64 0, .int .i64 0, .int .i64 0, .int .i64 0, .int .i64 0, .int .i64 0] 99)).1
        obtain ⟨gd, hgd⟩ : ∃ gd, gd = w7.heap.size := ⟨_, rfl⟩
        have hD := Blk.new w7 99 #[.int .i64 0, .int .i64 0, .int .i64 0, .int .i64 0, .int .i64 0, .int .i64 0]
        have hlt : gr < gd := by rw [hgd]; exact Blk.lt hS.rr
        rw [← hgd] at hD
        simp only [← hgd]
        generalize w7.alloc (.cells #[.int .i64 0, .int .i64 0, .int .i64 0, .int .i64 0, .int .i64 0, .int .i64 0] 99) = x8 at *
        clear hgd
        refine wpSeqR_exec (o := ⟨_, _, _, _, _, _⟩) rfl rfl (fun K hK => ?_)
        go_simp
        (with_reducible refine (HA.out x8 gr _ hS8.rr).mono ?_)
        rintro e x9 ⟨rfl, hR, hg⟩
        have hS9 := hS8.step hR hg
        have hB := hS8.R hg
        have hD := hD.grown hg (by intro e; injection e with e; omega)
        go_wp2_with fail
        refine hK _ _ hB ?_
        clear hK K hB
        refine wpSeqR_exec (o := ⟨_, _, _, _, _, _⟩) rfl rfl (fun K hK => ?_)
        go_simp
        (with_reducible refine (HM.out x9 (hS9.max hm)).mono ?_)
        rintro e x10 ⟨rfl, rfl⟩
        have hS10 := hS9
        have hB := Below.refl gr x9
        go_wp2_with fail
        refine hK _ _ hB ?_
        clear hK K hB
        refine wpSeqR_exec (o := ⟨_, _, _, _, _, _⟩) rfl rfl (fun K hK => ?_)
        go_simp
        (with_reducible refine (HY.out x9 gr _ hS10.rr).mono ?_)
        rintro e x11 ⟨rfl, hR, hg⟩
        have hS11 := hS10.step hR hg
        have hB := hS10.R hg
        have hD := hD.grown hg (by intro e; injection e with e; omega)
        go_wp2_with fail
        refine hK _ _ hB ?_
        clear hK K hB
        iterate 1 (refine wpSeqR_take (o := ⟨_, _, _, _, _, _⟩) (v := ?_) rfl rfl ?_ ?_; rotate_left; (focus (intro W hW; go_simp; first | done | with_reducible rfl)); simp only [Act.put, List.setIfInBounds_toArray, List.set_cons_zero, List.set_cons_succ])
        have d0 := hD.cell 0
        have d1 := hD.cell 1
        have d2 := hD.cell 2
        have d3 := hD.cell 3
        have d4 := hD.cell 4
        have d5 := hD.cell 5
        simp at d0 d1 d2 d3 d4 d5
        have hfz := hD.frozen
        refine wpSeqR_exec (o := ⟨_, _, _, _, _, _⟩) rfl rfl (fun K hK => ?_)
        go_simp
        refine hK _ _ (below_put6 hlt _ _ _ _ _ _) ?_
        have hE := blk_put6 hD (.int .i64 vy) (.int .i64 vm) (.int .i64 va) (.int .i64 0) (.int .i64 0) (.int .i64 0)
        have hF := hS11.put6 hlt (.int .i64 vy) (.int .i64 vm) (.int .i64 va) (.int .i64 0) (.int .i64 0) (.int .i64 0)
        clear hK K d0 d1 d2 d3 d4 d5 hfz hD
        generalize ((((((x11.setCell ⟨gd, 0, none⟩ (.int .i64 vy)).setCell ⟨gd, 1, none⟩ (.int .i64 vm)).setCell ⟨gd, 2, none⟩ (.int .i64 va)).setCell ⟨gd, 3, none⟩ (.int .i64 0)).setCell ⟨gd, 4, none⟩ (.int .i64 0)).setCell ⟨gd, 5, none⟩ (.int .i64 0)) = xf at *
        refine wpSeqR_nil ?_
        have q3 := hF.qq.cell 3
        simp at q3
        go_wp2_with fail
        (with_reducible refine (HC.out xf gr _ hF.rr).mono ?_)
        rintro e y1 ⟨rfl, hR, hg⟩
        have hG := hF.step hR hg
        have hE1 := hE.grown hg (by intro e; injection e with e; omega)
        clear hR hg hF hE q3
        have f0 := hE1.frozen
        have g3 := hE1.cell 3
        have g4 := hE1.cell 4
        have g5 := hE1.cell 5
        simp at g3 g4 g5
        have hI := ((hG.put hlt 3 (.int .i64 (vc / 3600))).put hlt 4 (.int .i64 (vc / 60 % 60))).put hlt 5 (.int .i64 (vc % 60))
        have hJ : Blk (((y1.setCell ⟨gd, 3, none⟩ (.int .i64 (vc / 3600))).setCell ⟨gd, 4, none⟩ (.int .i64 (vc / 60 % 60))).setCell ⟨gd, 5, none⟩ (.int .i64 (vc % 60))) gd 99 #[.int .i64 vy, .int .i64 vm, .int .i64 va, .int .i64 (vc / 3600), .int .i64 (vc / 60 % 60), .int .i64 (vc % 60)] := by
          have := ((hE1.set_ 3 (.int .i64 (vc / 3600))).set_ 4 (.int .i64 (vc / 60 % 60))).set_ 5 (.int .i64 (vc % 60))
          simpa using this
        have q4 := hI.qq.cell 4
        simp at q4
        clear hG hE1
        go_wp2_with fail
        clear g3 g4 g5 f0
        generalize ((y1.setCell ⟨gd, 3, none⟩ (.int .i64 (vc / 3600))).setCell ⟨gd, 4, none⟩ (.int .i64 (vc / 60 % 60))).setCell ⟨gd, 5, none⟩ (.int .i64 (vc % 60)) = y2 at *
        (with_reducible refine (HNM.out y2).mono ?_)
        rintro e y3 ⟨rfl, rfl⟩
        cases hz : zoneN e_ with
        | some z =>
          have hzc : zoneC e_ = (z, false) := by unfold zoneC; rw [hz]
          rw [hzc] at HW HZB
          have hT := rd_told gr _ ⟨vy, vm, va, vc / 3600, vc / 60 % 60, vc % 60⟩ z y2 hI.rr (by have := HZB.out.1; simp only at this; omega) (by have := HZB.out.2; simp only at this; omega) (by simp only; omega) (by simp only; omega)
          simp only [Bool.false_or] at hT
          simp only [Bool.or_false] at HW
          rw [← HW.out] at hT
          simp only [Dt.val, Dt.cells, tOut, HEN.out, HNN.out] at hT
          have HT := Lib.hid hT
          clear hT
          simp only [znV, Option.getD_some, Option.isSome_some]
          have j0 := hJ.cell 0
          have j1 := hJ.cell 1
          have j2 := hJ.cell 2
          have j3 := hJ.cell 3
          have j4 := hJ.cell 4
          have j5 := hJ.cell 5
          simp at j0 j1 j2 j3 j4 j5
          clear hz hzc
          go_wp2_with fail
          (with_reducible refine (HT.out).mono ?_)
          rintro e y4 ⟨rfl, hb⟩
          go_wp2_with fail
          go_ret2
          exact ⟨rfl, bel_step hI.bel hb⟩
        | none =>
          have hzc : zoneC e_ = ((rdOff false ⟨e_, false⟩).1, partB (rdOff false ⟨e_, false⟩).2) := by unfold zoneC; rw [hz]
          rw [hzc] at HW HZB
          have HOF := Lib.hid (fun (W : World) (g : Nat) (r : RD) (h : Rdd W g r) => part_off g r e_ (rdOff false ⟨e_, false⟩).1 (rdOff false ⟨e_, false⟩).2 W h (fun W g' h => rd_mail2 g' ⟨e_, false⟩ W h (HLN.out e_ (by simp))))
          clear hzc hz
          generalize rdOff false ⟨e_, false⟩ = qo at *
          obtain ⟨zo, ro⟩ := qo
          simp only at HOF HW HZB
          simp only [znV, Option.getD_none, Option.isSome_none]
          go_wp2_with fail
          (with_reducible refine (HOF.out y2 gr _ hI.rr).mono ?_)
          rintro e y4 ⟨rfl, hR, hg⟩
          have hL := hI.step hR hg
          have hJ2 := hJ.grown hg (by intro e; injection e with e; omega)
          have hT := rd_told gr _ ⟨vy, vm, va, vc / 3600, vc / 60 % 60, vc % 60⟩ zo y4 hL.rr (by have := HZB.out.1; omega) (by have := HZB.out.2; omega) (by simp only; omega) (by simp only; omega)
          simp only [Bool.false_or] at hT
          rw [← HW.out] at hT
          simp only [Dt.val, Dt.cells, tOut, HEN.out, HNN.out] at hT
          have HT := Lib.hid hT
          have j0 := hJ2.cell 0
          have j1 := hJ2.cell 1
          have j2 := hJ2.cell 2
          have j3 := hJ2.cell 3
          have j4 := hJ2.cell 4
          have j5 := hJ2.cell 5
          simp at j0 j1 j2 j3 j4 j5
          clear hT hR hg hI hJ q4 hJ2
          go_wp2_with fail
          (with_reducible refine (HT.out).mono ?_)
          rintro e y5 ⟨rfl, hb⟩
          go_wp2_with fail
          go_ret2
          exact ⟨rfl, bel_step hL.bel hb⟩
  · by_cases h6 : n = 6
    · subst h6
      obtain ⟨x, a, b, c, d, e_, rfl⟩ := six_of hn
      have HWD := Lib.hid (fun W => weekday_any x W)
      simp only [List.map_cons, List.map_nil] at HSP
      clear hn h5
      have B0 := bel_alloc (Below.refl w.heap.size w) (.cells #[.string ⟨x.toArray⟩, .string ⟨a.toArray⟩, .string ⟨b.toArray⟩, .string ⟨c.toArray⟩, .string ⟨d.toArray⟩, .string ⟨e_.toArray⟩] 9)
      have hq0 := Blk.new w 9 #[.string ⟨x.toArray⟩, .string ⟨a.toArray⟩, .string ⟨b.toArray⟩, .string ⟨c.toArray⟩, .string ⟨d.toArray⟩, .string ⟨e_.toArray⟩]
      by_cases hk : 0 ≤ indexL namesW x
      · have HW : Hid (res = mail5C [a, b, c, d, e_]) := Lib.hid (by rw [HMC.out]; unfold weekW; rw [if_pos ⟨rfl, by simpa using hk⟩]; rfl)
        have hkd : decide (0 ≤ indexL namesW x) = true := by simpa using hk
        rw [hkd] at HWD
        have HLN := Lib.hid (fun p (hp : p ∈ [a, b, c, d, e_]) => HLN.out p (List.mem_cons_of_mem _ hp))
        clear HMC hk hkd
        go_enter Tryd.func43, Tryd.ntmps43
        go_wp2_with fail
        (with_reducible refine (HSP.out).mono ?_)
        rintro e w1 ⟨rfl, rfl⟩
        go_wp2_with fail
        (with_reducible refine (HWD.out _).mono ?_)
        rintro e w1 ⟨rfl, rfl⟩
        go_wp2_with fail
        have HWI := Lib.hid (fun W => within_any (a.length : Int) 1 2 W)
        by_cases ha : 1 ≤ a.length ∧ a.length ≤ 2
        case neg =>
          have hr0 : res = none := by rw [HW.out, mail5_at, if_neg ha]
          have hen := HEN.out
          have hnn := HNN.out
          rw [hr0] at hen hnn
          simp at hen hnn
          subst hen hnn
          clear hr0
          have hwv : (decide (1 ≤ (a.length : Int)) && decide ((a.length : Int) ≤ 2)) = false := by
            rw [Bool.and_eq_false_iff]
            simp
            omega
          rw [hwv] at HWI
          (with_reducible refine (HWI.out _).mono ?_)
          rintro e w2 ⟨rfl, rfl⟩
          go_wp2_with fail
          go_ret2
          exact ⟨rfl, B0⟩
        case pos =>
          have hwv : (decide (1 ≤ (a.length : Int)) && decide ((a.length : Int) ≤ 2)) = true := by
            rw [Bool.and_eq_true]
            simp
            omega
          rw [hwv] at HWI
          clear hwv
          (with_reducible refine (HWI.out _).mono ?_)
          rintro e w2 ⟨rfl, rfl⟩
          clear HWI
          go_wp2_with fail
          have ha9 : a.length ≤ 9 := by omega
          have hw2 := HW.out
          rw [mail5_at, if_pos ha] at hw2
          clear HW
          have HW := Lib.hid hw2
          clear ha hw2
          have hS : MS w ((w.alloc (.cells #[.string ⟨x.toArray⟩, .string ⟨a.toArray⟩, .string ⟨b.toArray⟩, .string ⟨c.toArray⟩, .string ⟨d.toArray⟩, .string ⟨e_.toArray⟩] 9)).alloc (.cells #[.string ⟨#[]⟩, .bool false] 97)) w.heap.size (w.heap.size + 1) #[.string ⟨x.toArray⟩, .string ⟨a.toArray⟩, .string ⟨b.toArray⟩, .string ⟨c.toArray⟩, .string ⟨d.toArray⟩, .string ⟨e_.toArray⟩] ⟨[], false⟩ := by
            refine ⟨hq0.alloc _, ?_, bel_alloc B0 _, Nat.le_refl _, Nat.lt_succ_self _⟩
            have := Blk.new (w.alloc (.cells #[.string ⟨x.toArray⟩, .string ⟨a.toArray⟩, .string ⟨b.toArray⟩, .string ⟨c.toArray⟩, .string ⟨d.toArray⟩, .string ⟨e_.toArray⟩] 9)) 97 #[.string ⟨#[]⟩, .bool false]
            simpa [Rdd] using this
          obtain ⟨gr, hgr⟩ : ∃ gr, gr = w.heap.size + 1 := ⟨_, rfl⟩
          rw [← hgr] at hS
          simp only [← hgr]
          generalize (w.alloc (.cells #[.string ⟨x.toArray⟩, .string ⟨a.toArray⟩, .string ⟨b.toArray⟩, .string ⟨c.toArray⟩, .string ⟨d.toArray⟩, .string ⟨e_.toArray⟩] 9)).alloc (.cells #[.string ⟨#[]⟩, .bool false] 97) = w0 at *
          clear hgr hq0 B0
          have hS := hS.drew
          refine wp_region_alt (Below gr) (Below.refl gr) (fun _ _ _ h k => h.trans k) (by kernel_rfl) 15 [(16, false)] [(0, true), (1, true), (2, true), (3, true), (5, true), (6, true), (7, true), (9, true), (10, true), (11, true), (12, true), (4, false), (8, false), (13, false), (14, true)] (by kernel_rfl) rfl (by kernel_rfl) ?_
          generalize w0.drew = w7 at *
          have cq : ∀ W, Below gr w7 W → Blk W w.heap.size 9 #[.string ⟨x.toArray⟩, .string ⟨a.toArray⟩, .string ⟨b.toArray⟩, .string ⟨c.toArray⟩, .string ⟨d.toArray⟩, .string ⟨e_.toArray⟩] := fun W hW => hS.qq.below hW hS.h2
          have c0 := fun W (hW : Below gr w7 W) => (show W.cell? ⟨w.heap.size, 1, none⟩ = some (.string ⟨a.toArray⟩) from ((cq W hW).cell 1).trans rfl)
          have c1 := fun W (hW : Below gr w7 W) => (show W.cell? ⟨w.heap.size, 2, none⟩ = some (.string ⟨b.toArray⟩) from ((cq W hW).cell 2).trans rfl)
          have c2 := fun W (hW : Below gr w7 W) => (show W.cell? ⟨w.heap.size, 3, none⟩ = some (.string ⟨c.toArray⟩) from ((cq W hW).cell 3).trans rfl)
          iterate 11 (refine wpAltR_take (o := ⟨_, _, _, _, _, _⟩) (v := ?_) rfl rfl ?_ ?_; rotate_left; (focus (intro W hW; go_simp; first | done | with_reducible rfl)); simp only [Act.put, List.setIfInBounds_toArray, List.set_cons_zero, List.set_cons_succ])
          clear c0 c1 c2 cq
          have HA := Lib.hid (fun (W : World) (g : Nat) (r : RD) (h : Rdd W g r) => part_day g r a (rdDig a.length ⟨a, false⟩).1 (rdDig a.length ⟨a, false⟩).2 W h (fun W g' h => rd_mail1 g' ⟨a, false⟩ W h (by simp only; omega)))
          have HM := Lib.hid (fun (W : World) (h : W.cell? ⟨0, 0, none⟩ = some (.int .i64 m)) => month_any b m W (HLN.out b (by simp)) h)
          have HY := Lib.hid (fun (W : World) (g : Nat) (r : RD) (h : Rdd W g r) => part_year g r c (rdYear ⟨c, false⟩).1 (rdYear ⟨c, false⟩).2 W h (fun W g' h => rd_year g' ⟨c, false⟩ W h (HLN.out c (by simp))))
          have HC := Lib.hid (fun (W : World) (g : Nat) (r : RD) (h : Rdd W g r) => part_clock g r d (rdClock ⟨d, false⟩).1 (rdClock ⟨d, false⟩).2 W h (fun W g' h => rd_clock g' ⟨d, false⟩ W h (HLN.out d (by simp))))
          have HNM := Lib.hid (fun (W : World) => named_any e_ W)
          have HZB := Lib.hid (zoneC_bd e_)
          have hcb := clock_bd ⟨d, false⟩
          have hvb : -1 ≤ indexL namesM b := indexL_ge namesM b
          have hvb2 : indexL namesM b ≤ 12 := indexL_le namesM b
          generalize rdDig a.length ⟨a, false⟩ = qa at *
          generalize rdClock ⟨d, false⟩ = qc at *
          obtain ⟨vc, rc⟩ := qc
          generalize rdYear ⟨c, false⟩ = qy at *
          obtain ⟨va, ra⟩ := qa
          obtain ⟨vy, ry⟩ := qy
          obtain ⟨vm, hvm⟩ : ∃ vm, indexL namesM b + 1 = vm := ⟨_, rfl⟩
          rw [hvm] at HM HW
          have hvm0 : 0 ≤ vm := by omega
          have hvm1 : vm ≤ 13 := by omega
          clear hvm hvb hvb2
          simp only at HA HY HW HC hcb
          have k1 : IntKind.i64.wrap (vc / 3600) = vc / 3600 := IntWalk.i64_in _ (by omega)
          have k2 : IntKind.i64.wrap (vc / 60) = vc / 60 := IntWalk.i64_in _ (by omega)
          have k3 : (vc / 60).tmod 60 = vc / 60 % 60 := Int.tmod_eq_emod_of_nonneg (by omega)
          have k4 : vc.tmod 60 = vc % 60 := Int.tmod_eq_emod_of_nonneg (by omega)
          have k5 : vc.tdiv 3600 = vc / 3600 := Int.tdiv_eq_ediv_of_nonneg (by omega)
          have k6 : vc.tdiv 60 = vc / 60 := Int.tdiv_eq_ediv_of_nonneg (by omega)
          refine wpAltR_exec (o := ⟨_, _, _, _, _, _⟩) (ok := ⟨_, _, _, _, _, _⟩) rfl rfl rfl rfl (fun K hK => ?_) (fun K hK => ?_)
          · go_simp
            (with_reducible refine (HA.out w7 gr _ hS.rr).mono ?_)
            rintro e x12 ⟨rfl, hR, hg⟩
            have hS12 := hS.step hR hg
            have hB := hS.R hg
            go_wp2_with fail
            refine hK _ _ hB ?_
            clear hK K hB
            refine wpAltR_exec (o := ⟨_, _, _, _, _, _⟩) (ok := ⟨_, _, _, _, _, _⟩) rfl rfl rfl rfl (fun K hK => ?_) (fun K hK => ?_)
            · go_simp
              (with_reducible refine (HM.out x12 (hS12.max hm)).mono ?_)
              rintro e x13 ⟨rfl, rfl⟩
              have hS13 := hS12
              have hB := Below.refl gr x12
              go_wp2_with fail
              refine hK _ _ hB ?_
              clear hK K hB
              refine wpAltR_exec (o := ⟨_, _, _, _, _, _⟩) (ok := ⟨_, _, _, _, _, _⟩) rfl rfl rfl rfl (fun K hK => ?_) (fun K hK => ?_)
              · go_simp
                (with_reducible refine (HY.out x12 gr _ hS13.rr).mono ?_)
                rintro e x14 ⟨rfl, hR, hg⟩
                have hS14 := hS13.step hR hg
                have hB := hS13.R hg
                go_wp2_with fail
                refine hK _ _ hB ?_
                clear hK K hB
                iterate 1 (refine wpAltR_take (o := ⟨_, _, _, _, _, _⟩) (v := ?_) rfl rfl ?_ ?_; rotate_left; (focus (intro W hW; go_simp; first | done | with_reducible rfl)); simp only [Act.put, List.setIfInBounds_toArray, List.set_cons_zero, List.set_cons_succ])
                refine wpAltR_last (ok := ⟨_, _, _, _, _, _⟩) rfl rfl (fun K hK => ?_)
                go_simp
                refine hK _ _ (hS14.alloc (.cells #[.int .i64 0, .int .i64 0, .int .i64 0, .int .i64 0, .int .i64 0, .int .i64 0] 99)).2 ?_
                clear hK K
                refine wpSeqR_exec (o := ⟨_, _, _, _, _, _⟩) rfl rfl (fun K hK => ?_)
                go_simp
                refine hK _ _ (below_realloc4 _ _ (Nat.le_of_lt (Blk.lt hS14.rr))) ?_
                clear hK K
                obtain ⟨gd, hgd⟩ : ∃ gd, gd = x14.heap.size := ⟨_, rfl⟩
                have hE := Blk.new x14 99 #[.int .i64 vy, .int .i64 vm, .int .i64 va, .int .i64 0, .int .i64 0, .int .i64 0]
                have hlt : gr < gd := by rw [hgd]; exact Blk.lt hS14.rr
                have hF := (hS14.alloc (.cells #[.int .i64 vy, .int .i64 vm, .int .i64 va, .int .i64 0, .int .i64 0, .int .i64 0] 99)).1
                rw [← hgd] at hE
                simp only [← hgd]
                generalize x14.alloc (.cells #[.int .i64 vy, .int .i64 vm, .int .i64 va, .int .i64 0, .int .i64 0, .int .i64 0] 99) = xf at *
                clear hgd
                refine wpSeqR_nil ?_
                have q3 := hF.qq.cell 4
                simp at q3
                go_wp2_with fail
                (with_reducible refine (HC.out xf gr _ hF.rr).mono ?_)
                rintro e y1 ⟨rfl, hR, hg⟩
                have hG := hF.step hR hg
                have hE1 := hE.grown hg (by intro e; injection e with e; omega)
                clear hR hg hF hE q3
                have f0 := hE1.frozen
                have g3 := hE1.cell 3
                have g4 := hE1.cell 4
                have g5 := hE1.cell 5
                simp at g3 g4 g5
                have hI := ((hG.put hlt 3 (.int .i64 (vc / 3600))).put hlt 4 (.int .i64 (vc / 60 % 60))).put hlt 5 (.int .i64 (vc % 60))
                have hJ : Blk (((y1.setCell ⟨gd, 3, none⟩ (.int .i64 (vc / 3600))).setCell ⟨gd, 4, none⟩ (.int .i64 (vc / 60 % 60))).setCell ⟨gd, 5, none⟩ (.int .i64 (vc % 60))) gd 99 #[.int .i64 vy, .int .i64 vm, .int .i64 va, .int .i64 (vc / 3600), .int .i64 (vc / 60 % 60), .int .i64 (vc % 60)] := by
                  have := ((hE1.set_ 3 (.int .i64 (vc / 3600))).set_ 4 (.int .i64 (vc / 60 % 60))).set_ 5 (.int .i64 (vc % 60))
                  simpa using this
                have q4 := hI.qq.cell 5
                simp at q4
                clear hG hE1
                go_wp2_with fail
                clear g3 g4 g5 f0
                generalize ((y1.setCell ⟨gd, 3, none⟩ (.int .i64 (vc / 3600))).setCell ⟨gd, 4, none⟩ (.int .i64 (vc / 60 % 60))).setCell ⟨gd, 5, none⟩ (.int .i64 (vc % 60)) = y2 at *
                (with_reducible refine (HNM.out y2).mono ?_)
                rintro e y3 ⟨rfl, rfl⟩
                cases hz : zoneN e_ with
                | some z =>
                  have hzc : zoneC e_ = (z, false) := by unfold zoneC; rw [hz]
                  rw [hzc] at HW HZB
                  have hT := rd_told gr _ ⟨vy, vm, va, vc / 3600, vc / 60 % 60, vc % 60⟩ z y2 hI.rr (by have := HZB.out.1; simp only at this; omega) (by have := HZB.out.2; simp only at this; omega) (by simp only; omega) (by simp only; omega)
                  simp only [Bool.false_or] at hT
                  simp only [Bool.or_false] at HW
                  rw [← HW.out] at hT
                  simp only [Dt.val, Dt.cells, tOut, HEN.out, HNN.out] at hT
                  have HT := Lib.hid hT
                  clear hT
                  simp only [znV, Option.getD_some, Option.isSome_some]
                  have j0 := hJ.cell 0
                  have j1 := hJ.cell 1
                  have j2 := hJ.cell 2
                  have j3 := hJ.cell 3
                  have j4 := hJ.cell 4
                  have j5 := hJ.cell 5
                  simp at j0 j1 j2 j3 j4 j5
                  clear hz hzc
                  go_wp2_with fail
                  (with_reducible refine (HT.out).mono ?_)
                  rintro e y4 ⟨rfl, hb⟩
                  go_wp2_with fail
                  go_ret2
                  exact ⟨rfl, bel_step hI.bel hb⟩
                | none =>
                  have hzc : zoneC e_ = ((rdOff false ⟨e_, false⟩).1, partB (rdOff false ⟨e_, false⟩).2) := by unfold zoneC; rw [hz]
                  rw [hzc] at HW HZB
                  have HOF := Lib.hid (fun (W : World) (g : Nat) (r : RD) (h : Rdd W g r) => part_off g r e_ (rdOff false ⟨e_, false⟩).1 (rdOff false ⟨e_, false⟩).2 W h (fun W g' h => rd_mail2 g' ⟨e_, false⟩ W h (HLN.out e_ (by simp))))
                  clear hzc hz
                  generalize rdOff false ⟨e_, false⟩ = qo at *
                  obtain ⟨zo, ro⟩ := qo
                  simp only at HOF HW HZB
                  simp only [znV, Option.getD_none, Option.isSome_none]
                  go_wp2_with fail
                  (with_reducible refine (HOF.out y2 gr _ hI.rr).mono ?_)
                  rintro e y4 ⟨rfl, hR, hg⟩
                  have hL := hI.step hR hg
                  have hJ2 := hJ.grown hg (by intro e; injection e with e; omega)
                  have hT := rd_told gr _ ⟨vy, vm, va, vc / 3600, vc / 60 % 60, vc % 60⟩ zo y4 hL.rr (by have := HZB.out.1; omega) (by have := HZB.out.2; omega) (by simp only; omega) (by simp only; omega)
                  simp only [Bool.false_or] at hT
                  rw [← HW.out] at hT
                  simp only [Dt.val, Dt.cells, tOut, HEN.out, HNN.out] at hT
                  have HT := Lib.hid hT
                  have j0 := hJ2.cell 0
                  have j1 := hJ2.cell 1
                  have j2 := hJ2.cell 2
                  have j3 := hJ2.cell 3
                  have j4 := hJ2.cell 4
                  have j5 := hJ2.cell 5
                  simp at j0 j1 j2 j3 j4 j5
                  clear hT hR hg hI hJ q4 hJ2
                  go_wp2_with fail
                  (with_reducible refine (HT.out).mono ?_)
                  rintro e y5 ⟨rfl, hb⟩
                  go_wp2_with fail
                  go_ret2
                  exact ⟨rfl, bel_step hL.bel hb⟩
              · go_simp
                refine hK _ _ (hS13.alloc (.cells #[.int .i64 0, .int .i64 0, .int .i64 0, .int .i64 0, .int .i64 0, .int .i64 0] 99)).2 ?_
                clear hK K
                simp only [List.cons_append, List.nil_append]
                have hS15 := (hS13.alloc (.cells #[.int .i64 0, .int .i64 0, .int .i64 0, .int .i64 0, .int .i64 0, .int .i64 0] 99)).1
                obtain ⟨gd, hgd⟩ : ∃ gd, gd = x12.heap.size := ⟨_, rfl⟩
                have hD := Blk.new x12 99 #[.int .i64 0, .int .i64 0, .int .i64 0, .int .i64 0, .int .i64 0, .int .i64 0]
                have hlt : gr < gd := by rw [hgd]; exact Blk.lt hS13.rr
                rw [← hgd] at hD
                simp only [← hgd]
                generalize x12.alloc (.cells #[.int .i64 0, .int .i64 0, .int .i64 0, .int .i64 0, .int .i64 0, .int .i64 0] 99) = x15 at *
                clear hgd
                refine wpSeqR_exec (o := ⟨_, _, _, _, _, _⟩) rfl rfl (fun K hK => ?_)
                go_simp
                (with_reducible refine (HY.out x15 gr _ hS15.rr).mono ?_)
                rintro e x16 ⟨rfl, hR, hg⟩
                have hS16 := hS15.step hR hg
                have hB := hS15.R hg
                have hD := hD.grown hg (by intro e; injection e with e; omega)
                go_wp2_with fail
                refine hK _ _ hB ?_
                clear hK K hB
                iterate 1 (refine wpSeqR_take (o := ⟨_, _, _, _, _, _⟩) (v := ?_) rfl rfl ?_ ?_; rotate_left; (focus (intro W hW; go_simp; first | done | with_reducible rfl)); simp only [Act.put, List.setIfInBounds_toArray, List.set_cons_zero, List.set_cons_succ])
                have d0 := hD.cell 0
                have d1 := hD.cell 1
                have d2 := hD.cell 2
                have d3 := hD.cell 3
                have d4 := hD.cell 4
                have d5 := hD.cell 5
                simp at d0 d1 d2 d3 d4 d5
                have hfz := hD.frozen
                refine wpSeqR_exec (o := ⟨_, _, _, _, _, _⟩) rfl rfl (fun K hK => ?_)
                go_simp
                refine hK _ _ (below_put6 hlt _ _ _ _ _ _) ?_
                have hE := blk_put6 hD (.int .i64 vy) (.int .i64 vm) (.int .i64 va) (.int .i64 0) (.int .i64 0) (.int .i64 0)
                have hF := hS16.put6 hlt (.int .i64 vy) (.int .i64 vm) (.int .i64 va) (.int .i64 0) (.int .i64 0) (.int .i64 0)
                clear hK K d0 d1 d2 d3 d4 d5 hfz hD
                generalize ((((((x16.setCell ⟨gd, 0, none⟩ (.int .i64 vy)).setCell ⟨gd, 1, none⟩ (.int .i64 vm)).setCell ⟨gd, 2, none⟩ (.int .i64 va)).setCell ⟨gd, 3, none⟩ (.int .i64 0)).setCell ⟨gd, 4, none⟩ (.int .i64 0)).setCell ⟨gd, 5, none⟩ (.int .i64 0)) = xf at *
                refine wpSeqR_nil ?_
                have q3 := hF.qq.cell 4
                simp at q3
                go_wp2_with fail
                (with_reducible refine (HC.out xf gr _ hF.rr).mono ?_)
                rintro e y1 ⟨rfl, hR, hg⟩
                have hG := hF.step hR hg
                have hE1 := hE.grown hg (by intro e; injection e with e; omega)
                clear hR hg hF hE q3
                have f0 := hE1.frozen
                have g3 := hE1.cell 3
                have g4 := hE1.cell 4
                have g5 := hE1.cell 5
                simp at g3 g4 g5
                have hI := ((hG.put hlt 3 (.int .i64 (vc / 3600))).put hlt 4 (.int .i64 (vc / 60 % 60))).put hlt 5 (.int .i64 (vc % 60))
                have hJ : Blk (((y1.setCell ⟨gd, 3, none⟩ (.int .i64 (vc / 3600))).setCell ⟨gd, 4, none⟩ (.int .i64 (vc / 60 % 60))).setCell ⟨gd, 5, none⟩ (.int .i64 (vc % 60))) gd 99 #[.int .i64 vy, .int .i64 vm, .int .i64 va, .int .i64 (vc / 3600), .int .i64 (vc / 60 % 60), .int .i64 (vc % 60)] := by
                  have := ((hE1.set_ 3 (.int .i64 (vc / 3600))).set_ 4 (.int .i64 (vc / 60 % 60))).set_ 5 (.int .i64 (vc % 60))
                  simpa using this
                have q4 := hI.qq.cell 5
                simp at q4
                clear hG hE1
                go_wp2_with fail
                clear g3 g4 g5 f0
                generalize ((y1.setCell ⟨gd, 3, none⟩ (.int .i64 (vc / 3600))).setCell ⟨gd, 4, none⟩ (.int .i64 (vc / 60 % 60))).setCell ⟨gd, 5, none⟩ (.int .i64 (vc % 60)) = y2 at *
                (with_reducible refine (HNM.out y2).mono ?_)
                rintro e y3 ⟨rfl, rfl⟩
                cases hz : zoneN e_ with
                | some z =>
                  have hzc : zoneC e_ = (z, false) := by unfold zoneC; rw [hz]
                  rw [hzc] at HW HZB
                  have hT := rd_told gr _ ⟨vy, vm, va, vc / 3600, vc / 60 % 60, vc % 60⟩ z y2 hI.rr (by have := HZB.out.1; simp only at this; omega) (by have := HZB.out.2; simp only at this; omega) (by simp only; omega) (by simp only; omega)
                  simp only [Bool.false_or] at hT
                  simp only [Bool.or_false] at HW
                  rw [← HW.out] at hT
                  simp only [Dt.val, Dt.cells, tOut, HEN.out, HNN.out] at hT
                  have HT := Lib.hid hT
                  clear hT
                  simp only [znV, Option.getD_some, Option.isSome_some]
                  have j0 := hJ.cell 0
                  have j1 := hJ.cell 1
                  have j2 := hJ.cell 2
                  have j3 := hJ.cell 3
                  have j4 := hJ.cell 4
                  have j5 := hJ.cell 5
                  simp at j0 j1 j2 j3 j4 j5
                  clear hz hzc
                  go_wp2_with fail
                  (with_reducible refine (HT.out).mono ?_)
                  rintro e y4 ⟨rfl, hb⟩
                  go_wp2_with fail
                  go_ret2
                  exact ⟨rfl, bel_step hI.bel hb⟩
                | none =>
                  have hzc : zoneC e_ = ((rdOff false ⟨e_, false⟩).1, partB (rdOff false ⟨e_, false⟩).2) := by unfold zoneC; rw [hz]
                  rw [hzc] at HW HZB
                  have HOF := Lib.hid (fun (W : World) (g : Nat) (r : RD) (h : Rdd W g r) => part_off g r e_ (rdOff false ⟨e_, false⟩).1 (rdOff false ⟨e_, false⟩).2 W h (fun W g' h => rd_mail2 g' ⟨e_, false⟩ W h (HLN.out e_ (by simp))))
                  clear hzc hz
                  generalize rdOff false ⟨e_, false⟩ = qo at *
                  obtain ⟨zo, ro⟩ := qo
                  simp only at HOF HW HZB
                  simp only [znV, Option.getD_none, Option.isSome_none]
                  go_wp2_with fail
                  (with_reducible refine (HOF.out y2 gr _ hI.rr).mono ?_)
                  rintro e y4 ⟨rfl, hR, hg⟩
                  have hL := hI.step hR hg
                  have hJ2 := hJ.grown hg (by intro e; injection e with e; omega)
                  have hT := rd_told gr _ ⟨vy, vm, va, vc / 3600, vc / 60 % 60, vc % 60⟩ zo y4 hL.rr (by have := HZB.out.1; omega) (by have := HZB.out.2; omega) (by simp only; omega) (by simp only; omega)
                  simp only [Bool.false_or] at hT
                  rw [← HW.out] at hT
                  simp only [Dt.val, Dt.cells, tOut, HEN.out, HNN.out] at hT
                  have HT := Lib.hid hT
                  have j0 := hJ2.cell 0
                  have j1 := hJ2.cell 1
                  have j2 := hJ2.cell 2
                  have j3 := hJ2.cell 3
                  have j4 := hJ2.cell 4
                  have j5 := hJ2.cell 5
                  simp at j0 j1 j2 j3 j4 j5
                  clear hT hR hg hI hJ q4 hJ2
                  go_wp2_with fail
                  (with_reducible refine (HT.out).mono ?_)
                  rintro e y5 ⟨rfl, hb⟩
                  go_wp2_with fail
                  go_ret2
                  exact ⟨rfl, bel_step hL.bel hb⟩
            · go_simp
              refine hK _ _ (hS12.alloc (.cells #[.int .i64 0, .int .i64 0, .int .i64 0, .int .i64 0, .int .i64 0, .int .i64 0] 99)).2 ?_
              clear hK K
              simp only [List.cons_append, List.nil_append]
              have hS17 := (hS12.alloc (.cells #[.int .i64 0, .int .i64 0, .int .i64 0, .int .i64 0, .int .i64 0, .int .i64 0] 99)).1
              obtain ⟨gd, hgd⟩ : ∃ gd, gd = x12.heap.size := ⟨_, rfl⟩
              have hD := Blk.new x12 99 #[.int .i64 0, .int .i64 0, .int .i64 0, .int .i64 0, .int .i64 0, .int .i64 0]
              have hlt : gr < gd := by rw [hgd]; exact Blk.lt hS12.rr
              rw [← hgd] at hD
              simp only [← hgd]
              generalize x12.alloc (.cells #[.int .i64 0, .int .i64 0, .int .i64 0, .int .i64 0, .int .i64 0, .int .i64 0] 99) = x17 at *
              clear hgd
              refine wpSeqR_exec (o := ⟨_, _, _, _, _, _⟩) rfl rfl (fun K hK => ?_)
              go_simp
              (with_reducible refine (HM.out x17 (hS17.max hm)).mono ?_)
              rintro e x18 ⟨rfl, rfl⟩
              have hS18 := hS17
              have hB := Below.refl gr x17
              go_wp2_with fail
              refine hK _ _ hB ?_
              clear hK K hB
              refine wpSeqR_exec (o := ⟨_, _, _, _, _, _⟩) rfl rfl (fun K hK => ?_)
              go_simp
              (with_reducible refine (HY.out x17 gr _ hS18.rr).mono ?_)
              rintro e x19 ⟨rfl, hR, hg⟩
              have hS19 := hS18.step hR hg
              have hB := hS18.R hg
              have hD := hD.grown hg (by intro e; injection e with e; omega)
              go_wp2_with fail
              refine hK _ _ hB ?_
              clear hK K hB
              iterate 1 (refine wpSeqR_take (o := ⟨_, _, _, _, _, _⟩) (v := ?_) rfl rfl ?_ ?_; rotate_left; (focus (intro W hW; go_simp; first | done | with_reducible rfl)); simp only [Act.put, List.setIfInBounds_toArray, List.set_cons_zero, List.set_cons_succ])
              have d0 := hD.cell 0
              have d1 := hD.cell 1
              have d2 := hD.cell 2
              have d3 := hD.cell 3
              have d4 := hD.cell 4
              have d5 := hD.cell 5
              simp at d0 d1 d2 d3 d4 d5
              have hfz := hD.frozen
              refine wpSeqR_exec (o := ⟨_, _, _, _, _, _⟩) rfl rfl (fun K hK => ?_)
              go_simp
              refine hK _ _ (below_put6 hlt _ _ _ _ _ _) ?_
              have hE := blk_put6 hD (.int .i64 vy) (.int .i64 vm) (.int .i64 va) (.int .i64 0) (.int .i64 0) (.int .i64 0)
              have hF := hS19.put6 hlt (.int .i64 vy) (.int .i64 vm) (.int .i64 va) (.int .i64 0) (.int .i64 0) (.int .i64 0)
              clear hK K d0 d1 d2 d3 d4 d5 hfz hD
              generalize ((((((x19.setCell ⟨gd, 0, none⟩ (.int .i64 vy)).setCell ⟨gd, 1, none⟩ (.int .i64 vm)).setCell ⟨gd, 2, none⟩ (.int .i64 va)).setCell ⟨gd, 3, none⟩ (.int .i64 0)).setCell ⟨gd, 4, none⟩ (.int .i64 0)).setCell ⟨gd, 5, none⟩ (.int .i64 0)) = xf at *
              refine wpSeqR_nil ?_
              have q3 := hF.qq.cell 4
              simp at q3
              go_wp2_with fail
              (with_reducible refine (HC.out xf gr _ hF.rr).mono ?_)
              rintro e y1 ⟨rfl, hR, hg⟩
              have hG := hF.step hR hg
              have hE1 := hE.grown hg (by intro e; injection e with e; omega)
              clear hR hg hF hE q3
              have f0 := hE1.frozen
              have g3 := hE1.cell 3
              have g4 := hE1.cell 4
              have g5 := hE1.cell 5
              simp at g3 g4 g5
              have hI := ((hG.put hlt 3 (.int .i64 (vc / 3600))).put hlt 4 (.int .i64 (vc / 60 % 60))).put hlt 5 (.int .i64 (vc % 60))
              have hJ : Blk (((y1.setCell ⟨gd, 3, none⟩ (.int .i64 (vc / 3600))).setCell ⟨gd, 4, none⟩ (.int .i64 (vc / 60 % 60))).setCell ⟨gd, 5, none⟩ (.int .i64 (vc % 60))) gd 99 #[.int .i64 vy, .int .i64 vm, .int .i64 va, .int .i64 (vc / 3600), .int .i64 (vc / 60 % 60), .int .i64 (vc % 60)] := by
                have := ((hE1.set_ 3 (.int .i64 (vc / 3600))).set_ 4 (.int .i64 (vc / 60 % 60))).set_ 5 (.int .i64 (vc % 60))
                simpa using this
              have q4 := hI.qq.cell 5
              simp at q4
              clear hG hE1
              go_wp2_with fail
              clear g3 g4 g5 f0
              generalize ((y1.setCell ⟨gd, 3, none⟩ (.int .i64 (vc / 3600))).setCell ⟨gd, 4, none⟩ (.int .i64 (vc / 60 % 60))).setCell ⟨gd, 5, none⟩ (.int .i64 (vc % 60)) = y2 at *
              (with_reducible refine (HNM.out y2).mono ?_)
              rintro e y3 ⟨rfl, rfl⟩
              cases hz : zoneN e_ with
              | some z =>
                have hzc : zoneC e_ = (z, false) := by unfold zoneC; rw [hz]
                rw [hzc] at HW HZB
                have hT := rd_told gr _ ⟨vy, vm, va, vc / 3600, vc / 60 % 60, vc % 60⟩ z y2 hI.rr (by have := HZB.out.1; simp only at this; omega) (by have := HZB.out.2; simp only at this; omega) (by simp only; omega) (by simp only; omega)
                simp only [Bool.false_or] at hT
                simp only [Bool.or_false] at HW
                rw [← HW.out] at hT
                simp only [Dt.val, Dt.cells, tOut, HEN.out, HNN.out] at hT
                have HT := Lib.hid hT
                clear hT
                simp only [znV, Option.getD_some, Option.isSome_some]
                have j0 := hJ.cell 0
                have j1 := hJ.cell 1
                have j2 := hJ.cell 2
                have j3 := hJ.cell 3
                have j4 := hJ.cell 4
                have j5 := hJ.cell 5
                simp at j0 j1 j2 j3 j4 j5
                clear hz hzc
                go_wp2_with fail
                (with_reducible refine (HT.out).mono ?_)
                rintro e y4 ⟨rfl, hb⟩
                go_wp2_with fail
                go_ret2
                exact ⟨rfl, bel_step hI.bel hb⟩
              | none =>
                have hzc : zoneC e_ = ((rdOff false ⟨e_, false⟩).1, partB (rdOff false ⟨e_, false⟩).2) := by unfold zoneC; rw [hz]
                rw [hzc] at HW HZB
                have HOF := Lib.hid (fun (W : World) (g : Nat) (r : RD) (h : Rdd W g r) => part_off g r e_ (rdOff false ⟨e_, false⟩).1 (rdOff false ⟨e_, false⟩).2 W h (fun W g' h => rd_mail2 g' ⟨e_, false⟩ W h (HLN.out e_ (by simp))))
                clear hzc hz
                generalize rdOff false ⟨e_, false⟩ = qo at *
                obtain ⟨zo, ro⟩ := qo
                simp only at HOF HW HZB
                simp only [znV, Option.getD_none, Option.isSome_none]
                go_wp2_with fail
                (with_reducible refine (HOF.out y2 gr _ hI.rr).mono ?_)
                rintro e y4 ⟨rfl, hR, hg⟩
                have hL := hI.step hR hg
                have hJ2 := hJ.grown hg (by intro e; injection e with e; omega)
                have hT := rd_told gr _ ⟨vy, vm, va, vc / 3600, vc / 60 % 60, vc % 60⟩ zo y4 hL.rr (by have := HZB.out.1; omega) (by have := HZB.out.2; omega) (by simp only; omega) (by simp only; omega)
                simp only [Bool.false_or] at hT
                rw [← HW.out] at hT
                simp only [Dt.val, Dt.cells, tOut, HEN.out, HNN.out] at hT
                have HT := Lib.hid hT
                have j0 := hJ2.cell 0
                have j1 := hJ2.cell 1
                have j2 := hJ2.cell 2
                have j3 := hJ2.cell 3
                have j4 := hJ2.cell 4
                have j5 := hJ2.cell 5
                simp at j0 j1 j2 j3 j4 j5
                clear hT hR hg hI hJ q4 hJ2
                go_wp2_with fail
                (with_reducible refine (HT.out).mono ?_)
                rintro e y5 ⟨rfl, hb⟩
                go_wp2_with fail
                go_ret2
                exact ⟨rfl, bel_step hL.bel hb⟩
          · go_simp
            refine hK _ _ (hS.alloc (.cells #[.int .i64 0, .int .i64 0, .int .i64 0, .int .i64 0, .int .i64 0, .int .i64 0] 99)).2 ?_
            clear hK K
            simp only [List.cons_append, List.nil_append]
            have hS20 := (hS.alloc (.cells #[.int .i64 0, .int .i64 0, .int .i64 0, .int .i64 0, .int .i64 0, .int .i64 0] 99)).1
            obtain ⟨gd, hgd⟩ : ∃ gd, gd = w7.heap.size := ⟨_, rfl⟩
            have hD := Blk.new w7 99 #[.int .i64 0, .int .i64 0, .int .i64 0, .int .i64 0, .int .i64 0, .int .i64 0]
            have hlt : gr < gd := by rw [hgd]; exact Blk.lt hS.rr
            rw [← hgd] at hD
            simp only [← hgd]
            generalize w7.alloc (.cells #[.int .i64 0, .int .i64 0, .int .i64 0, .int .i64 0, .int .i64 0, .int .i64 0] 99) = x20 at *
            clear hgd
            refine wpSeqR_exec (o := ⟨_, _, _, _, _, _⟩) rfl rfl (fun K hK => ?_)
            go_simp
            (with_reducible refine (HA.out x20 gr _ hS20.rr).mono ?_)
            rintro e x21 ⟨rfl, hR, hg⟩
            have hS21 := hS20.step hR hg
            have hB := hS20.R hg
            have hD := hD.grown hg (by intro e; injection e with e; omega)
            go_wp2_with fail
            refine hK _ _ hB ?_
            clear hK K hB
            refine wpSeqR_exec (o := ⟨_, _, _, _, _, _⟩) rfl rfl (fun K hK => ?_)
            go_simp
            (with_reducible refine (HM.out x21 (hS21.max hm)).mono ?_)
            rintro e x22 ⟨rfl, rfl⟩
            have hS22 := hS21
            have hB := Below.refl gr x21
            go_wp2_with fail
            refine hK _ _ hB ?_
            clear hK K hB
            refine wpSeqR_exec (o := ⟨_, _, _, _, _, _⟩) rfl rfl (fun K hK => ?_)
            go_simp
            (with_reducible refine (HY.out x21 gr _ hS22.rr).mono ?_)
            rintro e x23 ⟨rfl, hR, hg⟩
            have hS23 := hS22.step hR hg
            have hB := hS22.R hg
            have hD := hD.grown hg (by intro e; injection e with e; omega)
            go_wp2_with fail
            refine hK _ _ hB ?_
            clear hK K hB
            iterate 1 (refine wpSeqR_take (o := ⟨_, _, _, _, _, _⟩) (v := ?_) rfl rfl ?_ ?_; rotate_left; (focus (intro W hW; go_simp; first | done | with_reducible rfl)); simp only [Act.put, List.setIfInBounds_toArray, List.set_cons_zero, List.set_cons_succ])
            have d0 := hD.cell 0
            have d1 := hD.cell 1
            have d2 := hD.cell 2
            have d3 := hD.cell 3
            have d4 := hD.cell 4
            have d5 := hD.cell 5
            simp at d0 d1 d2 d3 d4 d5
            have hfz := hD.frozen
            refine wpSeqR_exec (o := ⟨_, _, _, _, _, _⟩) rfl rfl (fun K hK => ?_)
            go_simp
            refine hK _ _ (below_put6 hlt _ _ _ _ _ _) ?_
            have hE := blk_put6 hD (.int .i64 vy) (.int .i64 vm) (.int .i64 va) (.int .i64 0) (.int .i64 0) (.int .i64 0)
            have hF := hS23.put6 hlt (.int .i64 vy) (.int .i64 vm) (.int .i64 va) (.int .i64 0) (.int .i64 0) (.int .i64 0)
            clear hK K d0 d1 d2 d3 d4 d5 hfz hD
            generalize ((((((x23.setCell ⟨gd, 0, none⟩ (.int .i64 vy)).setCell ⟨gd, 1, none⟩ (.int .i64 vm)).setCell ⟨gd, 2, none⟩ (.int .i64 va)).setCell ⟨gd, 3, none⟩ (.int .i64 0)).setCell ⟨gd, 4, none⟩ (.int .i64 0)).setCell ⟨gd, 5, none⟩ (.int .i64 0)) = xf at *
            refine wpSeqR_nil ?_
            have q3 := hF.qq.cell 4
            simp at q3
            go_wp2_with fail
            (with_reducible refine (HC.out xf gr _ hF.rr).mono ?_)
            rintro e y1 ⟨rfl, hR, hg⟩
            have hG := hF.step hR hg
            have hE1 := hE.grown hg (by intro e; injection e with e; omega)
            clear hR hg hF hE q3
            have f0 := hE1.frozen
            have g3 := hE1.cell 3
            have g4 := hE1.cell 4
            have g5 := hE1.cell 5
            simp at g3 g4 g5
            have hI := ((hG.put hlt 3 (.int .i64 (vc / 3600))).put hlt 4 (.int .i64 (vc / 60 % 60))).put hlt 5 (.int .i64 (vc % 60))
            have hJ : Blk (((y1.setCell ⟨gd, 3, none⟩ (.int .i64 (vc / 3600))).setCell ⟨gd, 4, none⟩ (.int .i64 (vc / 60 % 60))).setCell ⟨gd, 5, none⟩ (.int .i64 (vc % 60))) gd 99 #[.int .i64 vy, .int .i64 vm, .int .i64 va, .int .i64 (vc / 3600), .int .i64 (vc / 60 % 60), .int .i64 (vc % 60)] := by
              have := ((hE1.set_ 3 (.int .i64 (vc / 3600))).set_ 4 (.int .i64 (vc / 60 % 60))).set_ 5 (.int .i64 (vc % 60))
              simpa using this
            have q4 := hI.qq.cell 5
            simp at q4
            clear hG hE1
            go_wp2_with fail
            clear g3 g4 g5 f0
            generalize ((y1.setCell ⟨gd, 3, none⟩ (.int .i64 (vc / 3600))).setCell ⟨gd, 4, none⟩ (.int .i64 (vc / 60 % 60))).setCell ⟨gd, 5, none⟩ (.int .i64 (vc % 60)) = y2 at *
            (with_reducible refine (HNM.out y2).mono ?_)
            rintro e y3 ⟨rfl, rfl⟩
            cases hz : zoneN e_ with
            | some z =>
              have hzc : zoneC e_ = (z, false) := by unfold zoneC; rw [hz]
              rw [hzc] at HW HZB
              have hT := rd_told gr _ ⟨vy, vm, va, vc / 3600, vc / 60 % 60, vc % 60⟩ z y2 hI.rr (by have := HZB.out.1; simp only at this; omega) (by have := HZB.out.2; simp only at this; omega) (by simp only; omega) (by simp only; omega)
              simp only [Bool.false_or] at hT
              simp only [Bool.or_false] at HW
              rw [← HW.out] at hT
              simp only [Dt.val, Dt.cells, tOut, HEN.out, HNN.out] at hT
              have HT := Lib.hid hT
              clear hT
              simp only [znV, Option.getD_some, Option.isSome_some]
              have j0 := hJ.cell 0
              have j1 := hJ.cell 1
              have j2 := hJ.cell 2
              have j3 := hJ.cell 3
              have j4 := hJ.cell 4
              have j5 := hJ.cell 5
              simp at j0 j1 j2 j3 j4 j5
              clear hz hzc
              go_wp2_with fail
              (with_reducible refine (HT.out).mono ?_)
              rintro e y4 ⟨rfl, hb⟩
              go_wp2_with fail
              go_ret2
              exact ⟨rfl, bel_step hI.bel hb⟩
            | none =>
              have hzc : zoneC e_ = ((rdOff false ⟨e_, false⟩).1, partB (rdOff false ⟨e_, false⟩).2) := by unfold zoneC; rw [hz]
              rw [hzc] at HW HZB
              have HOF := Lib.hid (fun (W : World) (g : Nat) (r : RD) (h : Rdd W g r) => part_off g r e_ (rdOff false ⟨e_, false⟩).1 (rdOff false ⟨e_, false⟩).2 W h (fun W g' h => rd_mail2 g' ⟨e_, false⟩ W h (HLN.out e_ (by simp))))
              clear hzc hz
              generalize rdOff false ⟨e_, false⟩ = qo at *
              obtain ⟨zo, ro⟩ := qo
              simp only at HOF HW HZB
              simp only [znV, Option.getD_none, Option.isSome_none]
              go_wp2_with fail
              (with_reducible refine (HOF.out y2 gr _ hI.rr).mono ?_)
              rintro e y4 ⟨rfl, hR, hg⟩
              have hL := hI.step hR hg
              have hJ2 := hJ.grown hg (by intro e; injection e with e; omega)
              have hT := rd_told gr _ ⟨vy, vm, va, vc / 3600, vc / 60 % 60, vc % 60⟩ zo y4 hL.rr (by have := HZB.out.1; omega) (by have := HZB.out.2; omega) (by simp only; omega) (by simp only; omega)
              simp only [Bool.false_or] at hT
              rw [← HW.out] at hT
              simp only [Dt.val, Dt.cells, tOut, HEN.out, HNN.out] at hT
              have HT := Lib.hid hT
              have j0 := hJ2.cell 0
              have j1 := hJ2.cell 1
              have j2 := hJ2.cell 2
              have j3 := hJ2.cell 3
              have j4 := hJ2.cell 4
              have j5 := hJ2.cell 5
              simp at j0 j1 j2 j3 j4 j5
              clear hT hR hg hI hJ q4 hJ2
              go_wp2_with fail
              (with_reducible refine (HT.out).mono ?_)
              rintro e y5 ⟨rfl, hb⟩
              go_wp2_with fail
              go_ret2
              exact ⟨rfl, bel_step hL.bel hb⟩
      · have hr0 : res = none := by
          rw [HMC.out]
          unfold weekW
          rw [if_neg (by intro q; exact hk (by simpa using q.2))]
          exact mail5_len (by simp)
        have hkd : decide (0 ≤ indexL namesW x) = false := by simpa using hk
        rw [hkd] at HWD
        have hen := HEN.out
        have hnn := HNN.out
        rw [hr0] at hen hnn
        simp at hen hnn
        subst hen hnn
        clear hr0 hk hkd HMC
        go_enter Tryd.func43, Tryd.ntmps43
        go_wp2_with fail
        (with_reducible refine (HSP.out).mono ?_)
        rintro e w1 ⟨rfl, rfl⟩
        go_wp2_with fail
        (with_reducible refine (HWD.out _).mono ?_)
        rintro e w1 ⟨rfl, rfl⟩
        go_wp2_with fail
        go_ret2
        exact ⟨rfl, B0⟩
    · have hr0 : res = none := by
        rw [HMC.out]
        unfold weekW
        rw [if_neg (by intro q; exact h6 (hn.symm.trans q.1))]
        exact mail5_len (by rw [hn]; exact h5)
      have hen := HEN.out
      have hnn := HNN.out
      rw [hr0] at hen hnn
      simp at hen hnn
      subst hen hnn
      have d1 : decide ((n : Int) = 6) = false := by simp; omega
      have d2 : decide (n = 6) = false := by simpa using h6
      have d3 : ((n : Int) == 6) = false := by simp; omega
      have d4 : ((n : Int) != 5) = true := by simp; omega
      have d5 : decide ((n : Int) = 5) = false := by simp; omega
      have B0 := bel_alloc (Below.refl w.heap.size w) (.cells (ws.map fun p => Value.string ⟨p.toArray⟩).toArray 9)
      clear hr0 HMC hn
      go_enter Tryd.func43, Tryd.ntmps43
      go_wp2_with fail
      (with_reducible refine (HSP.out).mono ?_)
      rintro e w1 ⟨rfl, rfl⟩
      go_wp2_with fail
      go_ret2
      exact ⟨rfl, B0⟩
end Go.Proofs.YtlmmiaghbommcaaDoor
