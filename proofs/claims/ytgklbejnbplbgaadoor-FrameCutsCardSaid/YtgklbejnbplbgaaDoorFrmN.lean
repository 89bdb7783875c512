/-
  FrameCuts: the walk.
-/
import Derived.Test.YtgklbejnbplbgaaDoorFrmO
namespace Go.Proofs.YtgklbejnbplbgaaDoor
open Go.RowKit Go.Nst
set_option maxRecDepth 100000
set_option linter.unusedVariables false
set_option linter.unusedSimpArgs false

theorem all_round {bs : List (List UInt8)} {k : Nat} {b : List UInt8} (h : ∀ x ∈ bs.take k, 1 ≤ x.length ∧ x.length ≤ 300) (hb : bs[k]? = some b) (h1 : 1 ≤ b.length) (h2 : b.length ≤ 300) : ∀ x ∈ bs.take (k + 1), 1 ≤ x.length ∧ x.length ≤ 300 := by
  intro x hx
  rw [List.take_add_one, hb] at hx
  simp at hx
  rcases hx with hx | rfl
  · exact h x hx
  · exact ⟨h1, h2⟩

theorem upto_parts {w W : World} {A : Option Addr} {n j : Nat} {ps : List Part} (h : Reads W w.heap.size 1 A n (ps.map Part.val)) (hW : w.heap.size ≤ W.heap.size) (hj : j ≤ n) : Reads W W.heap.size 1 A j ((ps.take j).map Part.val) := by
  have := (h.upto hj).more hW
  rw [Nat.mul_one, ← List.map_take] at this
  exact this
set_option maxHeartbeats 2000000 in
theorem frameCuts_walk (A : Option Addr) (n c : Nat) (ps : List Part) (at_ : Int) (w : World) (hP : Reads w w.heap.size 1 A n (ps.map Part.val)) (hQ : ∀ p ∈ ps, Bs w p.A p.n p.l ∧ p.n ≤ p.c ∧ p.c ≤ 9223372036854775807) (hnc : n ≤ c) (hc63 : c ≤ 9223372036854775807) (hat : -9223372036854775808 ≤ at_ ∧ at_ ≤ 9223372036854775807) (ht : Tab w) : Calls Tryd.prog 10 #[.slice A n c, .int .i64 at_] w (RetTrue w) := by
  by_cases h3 : 30 < n
  · have d1 : decide (30 < (n : Int)) = true := by simp; omega
    go_enter Tryd.func10, Tryd.ntmps10
    go_wp2_with fail
    refine (lives17_any w ht).mono ?_
    rintro e w1 ⟨rfl, hb⟩
    go_wp2_with fail
    go_ret
    exact ⟨rfl, hb⟩
  have d1 : decide (30 < (n : Int)) = false := by simp; omega
  have hlen : ps.length = n := by have := hP.1; simpa using this
  have HLEN := Lib.hid hlen
  have HQ := Lib.hid hQ
  clear hQ hlen
  obtain ⟨bs, hbs⟩ : ∃ bs, ps.map Part.l = bs := ⟨_, rfl⟩
  have HBS := Lib.hid hbs
  have HBL : Hid (bs.length = n) := by rw [← hbs, List.length_map]; exact HLEN
  clear hbs
  go_enter Tryd.func10, Tryd.ntmps10
  go_wp2_with fail
  go_loopw [5, 6, 7] (fun v y i wr => ∃ (k m : Nat) (A2 : Option Addr) (c2 : Nat) (A3 : Option Addr) (c3 : Nat), v = .slice A2 m c2 ∧ y = .slice A3 k c3 ∧ i = .int .i64 (k : Int) ∧ k ≤ n ∧ m ≤ 400 * k ∧ Ow wr w.heap.size A2 m c2 (flatF (bs.take k)) ∧ Oi wr w.heap.size A3 k c3 (endsL bs k) ∧ Below w.heap.size w wr ∧ Hid (∀ x ∈ bs.take k, 1 ≤ x.length ∧ x.length ≤ 300)) (fun _ _ i _ => n - (intOf i).toNat)
  case atStart => exact ⟨0, 0, none, 0, none, 0, rfl, rfl, rfl, by omega, by omega, Ow.nil, World.ownsRow_nil _ _ _ _, Below.refl _ _, Lib.hid (by simp)⟩
  case round =>
    obtain ⟨k, m, A2, c2, A3, c3, rfl, rfl, rfl, hk, hmk, hO, hI, hbw, HA⟩ := hrel
    have hbs := hbw.size
    by_cases hlt : k < n
    · obtain ⟨p, b, off, rfl, hp, hb, hc⟩ := part_at (hP.below hbw) hlt
      obtain ⟨Bp, hp1, hp2⟩ := HQ.out p (List.mem_of_getElem? hp.out)
      have Bp := Bp.below hbw
      have HB : Hid (bs[k]? = some p.l) := by rw [← HBS.out, List.getElem?_map, hp.out]; exact Lib.hid rfl
      have hpl := Bp.len
      clear hp
      obtain ⟨pA, pn, pc, pl⟩ := p
      simp only at Bp hc hp1 hp2 hpl HB
      by_cases q1 : pn < 1
      · have e1 : decide ((pn : Int) < 1) = true := by simp; omega
        go_wp2_with fail
        refine (lives17_any wr (ht.below hbw)).mono ?_
        rintro e w1 ⟨rfl, hb1⟩
        go_wp2_with fail
        go_ret
        exact ⟨rfl, bel_step hbw hb1⟩
      have e1 : decide ((pn : Int) < 1) = false := by simp; omega
      by_cases q2 : 300 < pn
      · have e2 : decide (300 < (pn : Int)) = true := by simp; omega
        go_wp2_with fail
        refine (lives17_any wr (ht.below hbw)).mono ?_
        rintro e w1 ⟨rfl, hb1⟩
        go_wp2_with fail
        go_ret
        exact ⟨rfl, bel_step hbw hb1⟩
      have e2 : decide (300 < (pn : Int)) = false := by simp; omega
      have HN := Lib.hid (all_round HA.out HB.out (by omega) (by omega))
      have HR := Lib.hid (refPut17_any pA pn pc pl wr (by omega) Bp)
      have hfl := frame_len pl
      have hppl := (putL_len (zig (pl.length : Int))).2
      have HF := Lib.hid (flatF_snoc HB.out)
      have HES := Lib.hid (endsL_snoc bs k)
      have hEL : endL bs (k + 1) = (flatF (bs.take (k + 1))).length := rfl
      rw [HF.out, List.length_append, hO.len] at hEL
      generalize frameL pl = f at *
      have HEL := Lib.hid hEL
      have hf4 : f.length ≤ 400 := by omega
      clear hEL hfl hppl
      go_wp2_with fail
      refine HR.out.mono ?_
      rintro e w1 ⟨A4, n4, c4, rfl, ho4, hb4⟩
      have hn4 := ho4.len
      have hO1 := hO.below hb4
      have hI1 := own_below hI hb4
      have B1 := bel_step hbw hb4
      have hs1 := B1.size
      clear hb4
      have hap := own_apart hI1 hO1 (by decide)
      go_wp2_with (first
        | (at_builtin; have _t := hO1; refine wpList_appBg _ iBytes rfl rfl rfl hO1 rfl ho4.bs (m + n4) (flatF (bs.take (k + 1))) rfl HF.out.symm (by omega) hs1 ?_; intro A5 c5 w5 ho5 hb5 hg5 _; clear hO1 _t; have B5 := B1.trans hb5; have hs5 := B5.size; have hI5 : Oi w5 w.heap.size A3 k c3 (endsL bs k) := own_only hI1 hg5 hap; have hI5' := own_below hI5 (bel_alloc (Below.refl _ _) (.cells #[.int .i64 ((m + n4 : Nat) : Int)] 3)); have qq := Is.const w5 [((m + n4 : Nat) : Int)] #[.int .i64 ((m + n4 : Nat) : Int)] 3 (0, 0) 1 rfl rfl; have ho5' := ho5.below (bel_alloc (Below.refl _ _) (.cells #[.int .i64 ((m + n4 : Nat) : Int)] 3)); have hap5 := own_apart ho5' hI5' (by decide))
        | (at_builtin; refine wpList_appI _ rfl rfl rfl hI5' rfl qq (k + 1) (endsL bs (k + 1)) rfl (by rw [HES.out, HEL.out, hn4]) (by omega) (by simp; omega) ?_; intro A6 c6 w6 ho6 hb6 hg6))
      have ho6' : Ow w6 w.heap.size A5 (m + n4) c5 (flatF (bs.take (k + 1))) := own_only ho5' hg6 hap5
      go_roundw
      case rel => exact ⟨k + 1, m + n4, A5, c5, A6, c6, rfl, rfl, by go_num, by omega, by omega, ho6', ho6, (B5.alloc hs5 _).trans hb6, HN⟩
      case measure => simp [intOf]; omega
    · obtain rfl : k = n := by omega
      have HAll : Hid (∀ x ∈ bs, 1 ≤ x.length ∧ x.length ≤ 300) := by
        have := HA.out
        rw [List.take_of_length_le (by rw [HBL.out]; exact Nat.le_refl _)] at this
        exact Lib.hid this
      rw [List.take_of_length_le (by rw [HBL.out]; exact Nat.le_refl _)] at hO
      have hOl := hO.len
      by_cases q1 : at_ < 0
      · have e1 : decide (at_ < 0) = true := by simp; omega
        go_wp2_with fail
        refine (lives17_any wr (ht.below hbw)).mono ?_
        rintro e w1 ⟨rfl, hb1⟩
        go_wp2_with fail
        go_ret
        exact ⟨rfl, bel_step hbw hb1⟩
      have e1 : decide (at_ < 0) = false := by simp; omega
      by_cases q2 : (m : Int) < at_
      · have e2 : decide ((m : Int) < at_) = true := by simp; omega
        go_wp2_with fail
        refine (lives17_any wr (ht.below hbw)).mono ?_
        rintro e w1 ⟨rfl, hb1⟩
        go_wp2_with fail
        go_ret
        exact ⟨rfl, bel_step hbw hb1⟩
      have e2 : decide ((m : Int) < at_) = false := by simp; omega
      obtain ⟨a, rfl⟩ : ∃ a : Nat, at_ = (a : Int) := ⟨at_.toNat, by omega⟩
      have ham : a ≤ m := by omega
      have hIs : Is wr A3 k (endsL bs k) := Reads.of_own hI
      have HIs := Lib.hid hIs
      clear hI hIs HA
      go_wp2_with fail
      go_loop [8] (fun i => ∃ j : Nat, i = .int .i64 (j : Int) ∧ j ≤ k ∧ Hid (endL bs j ≤ a)) (fun i => k - (intOf i).toNat)
      case atStart => exact ⟨0, rfl, by omega, Lib.hid (by simp [endL, flatF])⟩
      case round =>
        obtain ⟨j, rfl, hj, HJ⟩ := hrel
        by_cases hjk : j < k ∧ endL bs (j + 1) ≤ a
        · obtain ⟨hlt2, hle⟩ := hjk
          obtain ⟨z, b, off, rfl, hz, hb, hc⟩ := Is.at HIs.out hlt2
          have hz' : z = (endL bs (j + 1) : Int) := by have := hz.out; rw [endsL_get bs hlt2] at this; injection this with this; exact this.symm
          have e3 : decide (z ≤ (a : Int)) = true := by rw [hz']; simp; omega
          have HN := Lib.hid hle
          clear hz' hz
          go_wp2_with fail
          go_round
          case rel => exact ⟨j + 1, by go_num, by omega, HN⟩
          case measure => simp [intOf]; omega
        · have HSC := Lib.hid (cuts_scan bs a j HAll.out (by omega) (by rw [HBL.out]; exact hj) HJ.out (by rw [HBL.out]; by_cases q : j = k; (· exact .inl q); (· exact .inr (by omega))))
          by_cases hjk2 : j = k
          · have hjc : ¬ j < k := by omega
            clear hjk2 hjk
            have hc2a := hO.cap
            have hc2b := ow_cap63 hO
            have f1 : (a : Int) ≤ (c2 : Int) := by omega
            have f2 : (0 : Int) ≤ (a : Int) := by omega
            have f3 : (j : Int) ≤ (c : Int) := by omega
            by_cases q0 : j = 0
            · have d0 : decide (0 < j) = false := by simp; omega
              obtain ⟨E, hE⟩ : ∃ E, endL bs j = E := ⟨_, rfl⟩
              have hE0 : E = 0 := by rw [← hE, q0]; simp [endL, flatF]
              rw [hE, hE0] at HSC
              clear q0
              clear hE hE0
              by_cases q7 : 0 < a
              · have e7 : decide (0 < a) = true := by simp; omega
                have HS := Lib.hid (scan17_any A2 a c2 _ wr (by omega) (by omega) hc2b (hO.bs.upto ham) (ht.below hbw))
                rw [HSC.out, if_pos q7] at HS
                go_wp2_with fail
                refine HS.out.mono ?_
                rintro e w1 ⟨A7, n7, c7, qs, rfl, p7, e7, hb7⟩
                have HE7 := Lib.hid e7
                have B7 := bel_step hbw hb7
                clear e7 hb7
                go_wp2_with fail
                refine (lives17_any w1 (ht.below B7)).mono ?_
                rintro e w2 ⟨rfl, hb8⟩
                have B8 := bel_step B7 hb8
                have p7 := p7.below hb8
                have hn7 : n7 ≤ 30 := by rw [← p7.len]; have := congrArg List.length HE7.out; rw [List.length_map, List.length_take, HBL.out] at this; omega
                clear hb8
                go_wp2_with fail
                refine (same17_any A7 A n7 c7 j c qs (ps.take j) w2 (by omega) p7.reads (upto_parts (hP.below B8) B8.size (by omega)) p7.bs (fun p hp => (HQ.out p (List.mem_of_mem_take hp)).1.below B8) (by rw [HE7.out, List.map_take, HBS.out])).mono ?_
                rintro e w3 ⟨rfl, hb9⟩
                go_wp2_with fail
                go_ret
                exact ⟨by simp, bel_step B8 hb9⟩
              · have e7 : decide (0 < a) = false := by simp; omega
                have HS := Lib.hid (scan17_any A2 a c2 _ wr (by omega) (by omega) hc2b (hO.bs.upto ham) (ht.below hbw))
                rw [HSC.out, if_neg q7] at HS
                go_wp2_with fail
                refine HS.out.mono ?_
                rintro e w1 ⟨A7, n7, c7, qs, rfl, p7, e7, hb7⟩
                have HE7 := Lib.hid e7
                have B7 := bel_step hbw hb7
                clear e7 hb7
                go_wp2_with fail
                refine (lives17_any w1 (ht.below B7)).mono ?_
                rintro e w2 ⟨rfl, hb8⟩
                have B8 := bel_step B7 hb8
                have p7 := p7.below hb8
                have hn7 : n7 ≤ 30 := by rw [← p7.len]; have := congrArg List.length HE7.out; rw [List.length_map, List.length_take, HBL.out] at this; omega
                clear hb8
                go_wp2_with fail
                refine (same17_any A7 A n7 c7 j c qs (ps.take j) w2 (by omega) p7.reads (upto_parts (hP.below B8) B8.size (by omega)) p7.bs (fun p hp => (HQ.out p (List.mem_of_mem_take hp)).1.below B8) (by rw [HE7.out, List.map_take, HBS.out])).mono ?_
                rintro e w3 ⟨rfl, hb9⟩
                go_wp2_with fail
                go_ret
                exact ⟨by simp, bel_step B8 hb9⟩
            · obtain ⟨i, hij⟩ : ∃ i, j = i + 1 := ⟨j - 1, by omega⟩
              obtain ⟨z1, b1, off1, hA1, hz1, hb1, hc1⟩ := Is.at HIs.out (show i < k by omega)
              have hz1' : z1 = (endL bs j : Int) := by have := hz1.out; rw [endsL_get bs (show i < k by omega), ← hij] at this; injection this with this; exact this.symm
              subst hz1'
              subst hA1
              clear hz1
              have d0 : decide (0 < j) = true := by simp; omega
              have ej : (j : Int) - 1 = (i : Int) := by omega
              have ij1 : i < k := by omega
              clear hij q0
              obtain ⟨E, hE⟩ : ∃ E, endL bs j = E := ⟨_, rfl⟩
              rw [hE] at HSC hc1
              have hE9 : E ≤ a := by rw [← hE]; exact HJ.out
              clear hE
              by_cases q7 : E < a
              · have e7 : decide ((E : Int) < (a : Int)) = true := by simp; omega
                have HS := Lib.hid (scan17_any A2 a c2 _ wr (by omega) (by omega) hc2b (hO.bs.upto ham) (ht.below hbw))
                rw [HSC.out, if_pos q7] at HS
                go_wp2_with fail
                refine HS.out.mono ?_
                rintro e w1 ⟨A7, n7, c7, qs, rfl, p7, e7, hb7⟩
                have HE7 := Lib.hid e7
                have B7 := bel_step hbw hb7
                clear e7 hb7
                go_wp2_with fail
                refine (lives17_any w1 (ht.below B7)).mono ?_
                rintro e w2 ⟨rfl, hb8⟩
                have B8 := bel_step B7 hb8
                have p7 := p7.below hb8
                have hn7 : n7 ≤ 30 := by rw [← p7.len]; have := congrArg List.length HE7.out; rw [List.length_map, List.length_take, HBL.out] at this; omega
                clear hb8
                go_wp2_with fail
                refine (same17_any A7 A n7 c7 j c qs (ps.take j) w2 (by omega) p7.reads (upto_parts (hP.below B8) B8.size (by omega)) p7.bs (fun p hp => (HQ.out p (List.mem_of_mem_take hp)).1.below B8) (by rw [HE7.out, List.map_take, HBS.out])).mono ?_
                rintro e w3 ⟨rfl, hb9⟩
                go_wp2_with fail
                go_ret
                exact ⟨by simp, bel_step B8 hb9⟩
              · have e7 : decide ((E : Int) < (a : Int)) = false := by simp; omega
                have HS := Lib.hid (scan17_any A2 a c2 _ wr (by omega) (by omega) hc2b (hO.bs.upto ham) (ht.below hbw))
                rw [HSC.out, if_neg q7] at HS
                go_wp2_with fail
                refine HS.out.mono ?_
                rintro e w1 ⟨A7, n7, c7, qs, rfl, p7, e7, hb7⟩
                have HE7 := Lib.hid e7
                have B7 := bel_step hbw hb7
                clear e7 hb7
                go_wp2_with fail
                refine (lives17_any w1 (ht.below B7)).mono ?_
                rintro e w2 ⟨rfl, hb8⟩
                have B8 := bel_step B7 hb8
                have p7 := p7.below hb8
                have hn7 : n7 ≤ 30 := by rw [← p7.len]; have := congrArg List.length HE7.out; rw [List.length_map, List.length_take, HBL.out] at this; omega
                clear hb8
                go_wp2_with fail
                refine (same17_any A7 A n7 c7 j c qs (ps.take j) w2 (by omega) p7.reads (upto_parts (hP.below B8) B8.size (by omega)) p7.bs (fun p hp => (HQ.out p (List.mem_of_mem_take hp)).1.below B8) (by rw [HE7.out, List.map_take, HBS.out])).mono ?_
                rintro e w3 ⟨rfl, hb9⟩
                go_wp2_with fail
                go_ret
                exact ⟨by simp, bel_step B8 hb9⟩
          · have hlt2 : j < k := by omega
            have hle : a < endL bs (j + 1) := by omega
            clear hjk hjk2
            obtain ⟨z, b, off, rfl, hz, hb, hc⟩ := Is.at HIs.out hlt2
            have hz' : z = (endL bs (j + 1) : Int) := by have := hz.out; rw [endsL_get bs hlt2] at this; injection this with this; exact this.symm
            have e3 : decide (z ≤ (a : Int)) = false := by rw [hz']; simp; omega
            clear hz' hz
            have hc2a := hO.cap
            have hc2b := ow_cap63 hO
            have f1 : (a : Int) ≤ (c2 : Int) := by omega
            have f2 : (0 : Int) ≤ (a : Int) := by omega
            have f3 : (j : Int) ≤ (c : Int) := by omega
            by_cases q0 : j = 0
            · have d0 : decide (0 < j) = false := by simp; omega
              obtain ⟨E, hE⟩ : ∃ E, endL bs j = E := ⟨_, rfl⟩
              have hE0 : E = 0 := by rw [← hE, q0]; simp [endL, flatF]
              rw [hE, hE0] at HSC
              clear q0
              clear hE hE0
              by_cases q7 : 0 < a
              · have e7 : decide (0 < a) = true := by simp; omega
                have HS := Lib.hid (scan17_any A2 a c2 _ wr (by omega) (by omega) hc2b (hO.bs.upto ham) (ht.below hbw))
                rw [HSC.out, if_pos q7] at HS
                go_wp2_with fail
                refine HS.out.mono ?_
                rintro e w1 ⟨A7, n7, c7, qs, rfl, p7, e7, hb7⟩
                have HE7 := Lib.hid e7
                have B7 := bel_step hbw hb7
                clear e7 hb7
                go_wp2_with fail
                refine (lives17_any w1 (ht.below B7)).mono ?_
                rintro e w2 ⟨rfl, hb8⟩
                have B8 := bel_step B7 hb8
                have p7 := p7.below hb8
                have hn7 : n7 ≤ 30 := by rw [← p7.len]; have := congrArg List.length HE7.out; rw [List.length_map, List.length_take, HBL.out] at this; omega
                clear hb8
                go_wp2_with fail
                refine (same17_any A7 A n7 c7 j c qs (ps.take j) w2 (by omega) p7.reads (upto_parts (hP.below B8) B8.size (by omega)) p7.bs (fun p hp => (HQ.out p (List.mem_of_mem_take hp)).1.below B8) (by rw [HE7.out, List.map_take, HBS.out])).mono ?_
                rintro e w3 ⟨rfl, hb9⟩
                go_wp2_with fail
                go_ret
                exact ⟨by simp, bel_step B8 hb9⟩
              · have e7 : decide (0 < a) = false := by simp; omega
                have HS := Lib.hid (scan17_any A2 a c2 _ wr (by omega) (by omega) hc2b (hO.bs.upto ham) (ht.below hbw))
                rw [HSC.out, if_neg q7] at HS
                go_wp2_with fail
                refine HS.out.mono ?_
                rintro e w1 ⟨A7, n7, c7, qs, rfl, p7, e7, hb7⟩
                have HE7 := Lib.hid e7
                have B7 := bel_step hbw hb7
                clear e7 hb7
                go_wp2_with fail
                refine (lives17_any w1 (ht.below B7)).mono ?_
                rintro e w2 ⟨rfl, hb8⟩
                have B8 := bel_step B7 hb8
                have p7 := p7.below hb8
                have hn7 : n7 ≤ 30 := by rw [← p7.len]; have := congrArg List.length HE7.out; rw [List.length_map, List.length_take, HBL.out] at this; omega
                clear hb8
                go_wp2_with fail
                refine (same17_any A7 A n7 c7 j c qs (ps.take j) w2 (by omega) p7.reads (upto_parts (hP.below B8) B8.size (by omega)) p7.bs (fun p hp => (HQ.out p (List.mem_of_mem_take hp)).1.below B8) (by rw [HE7.out, List.map_take, HBS.out])).mono ?_
                rintro e w3 ⟨rfl, hb9⟩
                go_wp2_with fail
                go_ret
                exact ⟨by simp, bel_step B8 hb9⟩
            · obtain ⟨i, hij⟩ : ∃ i, j = i + 1 := ⟨j - 1, by omega⟩
              obtain ⟨z1, b1, off1, hA1, hz1, hb1, hc1⟩ := Is.at HIs.out (show i < k by omega)
              have hz1' : z1 = (endL bs j : Int) := by have := hz1.out; rw [endsL_get bs (show i < k by omega), ← hij] at this; injection this with this; exact this.symm
              subst hz1'
              injection hA1 with hA1; injection hA1 with hA1 hA2; subst hA1 hA2
              clear hz1
              have d0 : decide (0 < j) = true := by simp; omega
              have ej : (j : Int) - 1 = (i : Int) := by omega
              have ij1 : i < k := by omega
              clear hij q0
              obtain ⟨E, hE⟩ : ∃ E, endL bs j = E := ⟨_, rfl⟩
              rw [hE] at HSC hc1
              have hE9 : E ≤ a := by rw [← hE]; exact HJ.out
              clear hE
              by_cases q7 : E < a
              · have e7 : decide ((E : Int) < (a : Int)) = true := by simp; omega
                have HS := Lib.hid (scan17_any A2 a c2 _ wr (by omega) (by omega) hc2b (hO.bs.upto ham) (ht.below hbw))
                rw [HSC.out, if_pos q7] at HS
                go_wp2_with fail
                refine HS.out.mono ?_
                rintro e w1 ⟨A7, n7, c7, qs, rfl, p7, e7, hb7⟩
                have HE7 := Lib.hid e7
                have B7 := bel_step hbw hb7
                clear e7 hb7
                go_wp2_with fail
                refine (lives17_any w1 (ht.below B7)).mono ?_
                rintro e w2 ⟨rfl, hb8⟩
                have B8 := bel_step B7 hb8
                have p7 := p7.below hb8
                have hn7 : n7 ≤ 30 := by rw [← p7.len]; have := congrArg List.length HE7.out; rw [List.length_map, List.length_take, HBL.out] at this; omega
                clear hb8
                go_wp2_with fail
                refine (same17_any A7 A n7 c7 j c qs (ps.take j) w2 (by omega) p7.reads (upto_parts (hP.below B8) B8.size (by omega)) p7.bs (fun p hp => (HQ.out p (List.mem_of_mem_take hp)).1.below B8) (by rw [HE7.out, List.map_take, HBS.out])).mono ?_
                rintro e w3 ⟨rfl, hb9⟩
                go_wp2_with fail
                go_ret
                exact ⟨by simp, bel_step B8 hb9⟩
              · have e7 : decide ((E : Int) < (a : Int)) = false := by simp; omega
                have HS := Lib.hid (scan17_any A2 a c2 _ wr (by omega) (by omega) hc2b (hO.bs.upto ham) (ht.below hbw))
                rw [HSC.out, if_neg q7] at HS
                go_wp2_with fail
                refine HS.out.mono ?_
                rintro e w1 ⟨A7, n7, c7, qs, rfl, p7, e7, hb7⟩
                have HE7 := Lib.hid e7
                have B7 := bel_step hbw hb7
                clear e7 hb7
                go_wp2_with fail
                refine (lives17_any w1 (ht.below B7)).mono ?_
                rintro e w2 ⟨rfl, hb8⟩
                have B8 := bel_step B7 hb8
                have p7 := p7.below hb8
                have hn7 : n7 ≤ 30 := by rw [← p7.len]; have := congrArg List.length HE7.out; rw [List.length_map, List.length_take, HBL.out] at this; omega
                clear hb8
                go_wp2_with fail
                refine (same17_any A7 A n7 c7 j c qs (ps.take j) w2 (by omega) p7.reads (upto_parts (hP.below B8) B8.size (by omega)) p7.bs (fun p hp => (HQ.out p (List.mem_of_mem_take hp)).1.below B8) (by rw [HE7.out, List.map_take, HBS.out])).mono ?_
                rintro e w3 ⟨rfl, hb9⟩
                go_wp2_with fail
                go_ret
                exact ⟨by simp, bel_step B8 hb9⟩
end Go.Proofs.YtgklbejnbplbgaaDoor
