/-
  Queries' texts and what they lean on, part 17: only what the claims need.
-/
import Derived.Test.YtjjlmkleidbmhaaGreatDoorZ16
import Derived.Test.YtjjlmkleidbmhaaGreatDoorZ15
import Derived.Test.YtjjlmkleidbmhaaGreatDoorZ12
import Derived.Lib.IndexMore
section
namespace Go.Proofs.YtjjlmkleidbmhaaGreatDoor
open Go.RowKit Go.Nst
set_option maxRecDepth 100000
set_option linter.unusedVariables false
set_option linter.unusedSimpArgs false

def tOut (o : Option Int) : Value := .tuple #[.int .i64 (o.getD 0), .int .i64 (if o.isSome = true then 0 else 40)]
theorem off_bd (c : Bool) (r : RD) : -400000 ≤ (rdOff c r).1 ∧ (rdOff c r).1 ≤ 400000 := by
  have h1 := dig2_bd (rdSign [43, 45] r).2
  have h2 := dig2_bd (rdColon c (rdDig 2 (rdSign [43, 45] r).2).2)
  unfold rdOff offN
  simp only
  split <;> omega
theorem zone_bd (r : RD) : -400000 ≤ (rdZone r).1 ∧ (rdZone r).1 ≤ 400000 := by
  unfold rdZone
  split
  · simp
  · exact off_bd true r
set_option maxHeartbeats 4000000 in
theorem rd_zone (g : Nat) (r : RD) (w : World) (hR : Rdd w g r) (hl : r.l.length ≤ 100000) :
    Calls Tryz.prog 162 #[.pointer (some ⟨g, 0, none⟩)] w (RetD w g (.int .i64 (rdZone r).1) (rdZone r).2) := by
  have HO := Lib.hid (rd_offset g true r w hR hl)
  obtain ⟨l, b⟩ := r
  simp only at hl
  have hg := Blk.lt hR
  have c0 := Blk.cell hR 0
  have c1 := Blk.cell hR 1
  simp at c0 c1
  have hfz := Blk.frozen hR
  have HR := Lib.hid hR
  clear hR
  by_cases h1 : l = [90]
  · subst h1
    have HV : Hid (rdZone ⟨[90], b⟩ = (0, ⟨[], b⟩)) := rfl
    go_enter Tryz.func162, Tryz.ntmps162
    go_wp2_with fail
    go_ret
    rw [HV.out]
    exact ⟨rfl, by have := Blk.set_ HR.out 0 (.string ⟨#[]⟩); simpa [Rdd] using this, only_setCell (World.grownBy.refl _ _) (.inl rfl) _⟩
  by_cases h2 : l = [122]
  · subst h2
    have HV : Hid (rdZone ⟨[122], b⟩ = (0, ⟨[], b⟩)) := rfl
    go_enter Tryz.func162, Tryz.ntmps162
    go_wp2_with fail
    go_ret
    rw [HV.out]
    exact ⟨rfl, by have := Blk.set_ HR.out 0 (.string ⟨#[]⟩); simpa [Rdd] using this, only_setCell (World.grownBy.refl _ _) (.inl rfl) _⟩
  have HV : Hid (rdZone ⟨l, b⟩ = rdOff true ⟨l, b⟩) := Lib.hid (by unfold rdZone; rw [if_neg (by simp [h1, h2])])
  have e1 : (l == [90]) = false := by simpa using h1
  have e2 : (l == [122]) = false := by simpa using h2
  generalize rdOff true ⟨l, b⟩ = q at *
  go_enter Tryz.func162, Tryz.ntmps162
  go_wp2_with fail
  (with_reducible refine (HO.out).mono ?_)
  rintro e w1 ⟨rfl, hR1, hg1⟩
  go_wp2_with fail
  go_ret
  rw [HV.out]
  exact ⟨rfl, hR1, hg1⟩
theorem mayM_eq (n : Int) : (decide (-62135596800 ≤ n) && decide (n ≤ 253402300799)) = mayM n := rfl
set_option maxHeartbeats 4000000 in
theorem rd_told (g : Nat) (r : RD) (x : Dt) (z : Int) (w : World) (hR : Rdd w g r) (hz0 : -1000000 ≤ z) (hz1 : z ≤ 1000000) (hm0 : -9223372036854775808 ≤ x.m) (hm1 : x.m ≤ 9223372036854775807) :
    Calls Tryz.prog 161 #[.pointer (some ⟨g, 0, none⟩), Dt.val x, .int .i64 z] w (fun e w' => e = .returned (tOut (toldC r x z)) ∧ Below w.heap.size w w') := by
  obtain ⟨y, m, d, h_, mi, s⟩ := x
  obtain ⟨l, b⟩ := r
  simp only at hm0 hm1
  simp only [Dt.val, Dt.cells]
  have B0 := bel_alloc (Below.refl w.heap.size w) (.cells #[.int .i64 y, .int .i64 m, .int .i64 d, .int .i64 h_, .int .i64 mi, .int .i64 s] 80)
  have hR0 := hR.below B0
  have hv0 := Blk.new w 80 #[.int .i64 y, .int .i64 m, .int .i64 d, .int .i64 h_, .int .i64 mi, .int .i64 s]
  have HT : Hid (toldC ⟨l, b⟩ ⟨y, m, d, h_, mi, s⟩ z = if !b && l.isEmpty then toldR ⟨y, m, d, h_, mi, s⟩ z else none) := rfl
  cases hok : Dt.ok ⟨y, m, d, h_, mi, s⟩ with
  | false =>
    have HTN : Hid (toldC ⟨l, b⟩ ⟨y, m, d, h_, mi, s⟩ z = none) := Lib.hid (by rw [HT.out, told_no hok]; split <;> rfl)
    have HM := Lib.hid (fun W => moment_no y m d h_ mi s W hm0 hm1 hok)
    clear hok HT
    by_cases hl0 : l = []
    · subst hl0
      cases b with
      | true =>
        go_enter Tryz.func161, Tryz.ntmps161
        go_wp2_with fail
        (with_reducible refine (HM.out _).mono ?_)
        rintro e w1 ⟨rfl, hb1⟩
        have B1 := bel_step B0 hb1
        have hR1 := hR0.below hb1
        have c0 := Blk.cell hR1 0
        have c1 := Blk.cell hR1 1
        simp at c0 c1
        clear hb1 B0 hR0 hR hv0
        go_wp2_with fail
        go_ret2
        rw [HTN.out]
        exact ⟨rfl, B1⟩
      | false =>
        go_enter Tryz.func161, Tryz.ntmps161
        go_wp2_with fail
        (with_reducible refine (HM.out _).mono ?_)
        rintro e w1 ⟨rfl, hb1⟩
        have B1 := bel_step B0 hb1
        have hR1 := hR0.below hb1
        have c0 := Blk.cell hR1 0
        have c1 := Blk.cell hR1 1
        simp at c0 c1
        clear hb1 B0 hR0 hR hv0
        go_wp2_with fail
        go_ret2
        rw [HTN.out]
        exact ⟨rfl, B1⟩
    · have e1 : (l == []) = false := by simpa using hl0
      have e2 : l.isEmpty = false := by cases l with | nil => exact absurd rfl hl0 | cons a t => rfl
      cases b with
      | true =>
        go_enter Tryz.func161, Tryz.ntmps161
        go_wp2_with fail
        (with_reducible refine (HM.out _).mono ?_)
        rintro e w1 ⟨rfl, hb1⟩
        have B1 := bel_step B0 hb1
        have hR1 := hR0.below hb1
        have c0 := Blk.cell hR1 0
        have c1 := Blk.cell hR1 1
        simp at c0 c1
        clear hb1 B0 hR0 hR hv0
        go_wp2_with fail
        go_ret2
        rw [HTN.out]
        exact ⟨rfl, B1⟩
      | false =>
        go_enter Tryz.func161, Tryz.ntmps161
        go_wp2_with fail
        (with_reducible refine (HM.out _).mono ?_)
        rintro e w1 ⟨rfl, hb1⟩
        have B1 := bel_step B0 hb1
        have hR1 := hR0.below hb1
        have c0 := Blk.cell hR1 0
        have c1 := Blk.cell hR1 1
        simp at c0 c1
        clear hb1 B0 hR0 hR hv0
        go_wp2_with fail
        go_ret2
        rw [HTN.out]
        exact ⟨rfl, B1⟩
  | true =>
    have HM := Lib.hid (fun W => moment_yes y m d h_ mi s W hok)
    have hmb := mom_bounds hok
    rw [mayM_iff] at hmb
    have HTR : Hid (toldR ⟨y, m, d, h_, mi, s⟩ z = if mayM (Dt.mom ⟨y, m, d, h_, mi, s⟩ - z) = true then some (Dt.mom ⟨y, m, d, h_, mi, s⟩ - z) else none) := Lib.hid (by unfold toldR; rw [hok, Bool.true_and])
    generalize Dt.mom ⟨y, m, d, h_, mi, s⟩ = M at *
    have k1 : IntKind.i64.wrap (M - z) = M - z := IntWalk.i64_in _ (by omega)
    have HWI := Lib.hid (fun W => within_any (M - z) (-62135596800) 253402300799 W)
    simp only [mayM_eq] at HWI
    clear hok
    by_cases hl0 : l = []
    · subst hl0
      cases b with
      | true =>
        have HTN : Hid (toldC ⟨[], true⟩ ⟨y, m, d, h_, mi, s⟩ z = none) := rfl
        go_enter Tryz.func161, Tryz.ntmps161
        go_wp2_with fail
        (with_reducible refine (HM.out _).mono ?_)
        rintro e w1 ⟨rfl, hb1⟩
        have B1 := bel_step B0 hb1
        have hR1 := hR0.below hb1
        have c0 := Blk.cell hR1 0
        have c1 := Blk.cell hR1 1
        simp at c0 c1
        clear hb1 B0 hR0 hR hv0
        go_wp2_with fail
        go_ret2
        rw [HTN.out]
        exact ⟨rfl, B1⟩
      | false =>
        have HTS : Hid (toldC ⟨[], false⟩ ⟨y, m, d, h_, mi, s⟩ z = if mayM (M - z) = true then some (M - z) else none) := Lib.hid (by rw [HT.out, HTR.out]; rfl)
        cases hmm : mayM (M - z) with
        | false =>
          rw [hmm] at HWI HTS
          have HTN : Hid (toldC ⟨[], false⟩ ⟨y, m, d, h_, mi, s⟩ z = none) := Lib.hid HTS.out
          clear hmm
          go_enter Tryz.func161, Tryz.ntmps161
          go_wp2_with fail
          (with_reducible refine (HM.out _).mono ?_)
          rintro e w1 ⟨rfl, hb1⟩
          have B1 := bel_step B0 hb1
          have hR1 := hR0.below hb1
          have c0 := Blk.cell hR1 0
          have c1 := Blk.cell hR1 1
          simp at c0 c1
          clear hb1 B0 hR0 hR hv0
          go_wp2_with fail
          (with_reducible refine (HWI.out _).mono ?_)
          rintro e w2 ⟨rfl, rfl⟩
          go_wp2_with fail
          go_ret2
          rw [HTN.out]
          exact ⟨rfl, B1⟩
        | true =>
          rw [hmm] at HWI HTS
          have HTN : Hid (toldC ⟨[], false⟩ ⟨y, m, d, h_, mi, s⟩ z = some (M - z)) := Lib.hid HTS.out
          clear hmm
          go_enter Tryz.func161, Tryz.ntmps161
          go_wp2_with fail
          (with_reducible refine (HM.out _).mono ?_)
          rintro e w1 ⟨rfl, hb1⟩
          have B1 := bel_step B0 hb1
          have hR1 := hR0.below hb1
          have c0 := Blk.cell hR1 0
          have c1 := Blk.cell hR1 1
          simp at c0 c1
          clear hb1 B0 hR0 hR hv0
          go_wp2_with fail
          (with_reducible refine (HWI.out _).mono ?_)
          rintro e w2 ⟨rfl, rfl⟩
          go_wp2_with fail
          go_ret2
          rw [HTN.out]
          exact ⟨rfl, B1⟩
    · have e1 : (l == []) = false := by simpa using hl0
      have e2 : l.isEmpty = false := by cases l with | nil => exact absurd rfl hl0 | cons a t => rfl
      have HTN : Hid (toldC ⟨l, b⟩ ⟨y, m, d, h_, mi, s⟩ z = none) := Lib.hid (by rw [HT.out, e2, Bool.and_false]; rfl)
      cases b with
      | true =>
        go_enter Tryz.func161, Tryz.ntmps161
        go_wp2_with fail
        (with_reducible refine (HM.out _).mono ?_)
        rintro e w1 ⟨rfl, hb1⟩
        have B1 := bel_step B0 hb1
        have hR1 := hR0.below hb1
        have c0 := Blk.cell hR1 0
        have c1 := Blk.cell hR1 1
        simp at c0 c1
        clear hb1 B0 hR0 hR hv0
        go_wp2_with fail
        go_ret2
        rw [HTN.out]
        exact ⟨rfl, B1⟩
      | false =>
        go_enter Tryz.func161, Tryz.ntmps161
        go_wp2_with fail
        (with_reducible refine (HM.out _).mono ?_)
        rintro e w1 ⟨rfl, hb1⟩
        have B1 := bel_step B0 hb1
        have hR1 := hR0.below hb1
        have c0 := Blk.cell hR1 0
        have c1 := Blk.cell hR1 1
        simp at c0 c1
        clear hb1 B0 hR0 hR hv0
        go_wp2_with fail
        go_ret2
        rw [HTN.out]
        exact ⟨rfl, B1⟩
/-- the world while a date of the web is read -/
structure DS (w W : World) (gr gd : Nat) (r : RD) (cs : Array Value) : Prop where
  rr : Rdd W gr r
  dd : Blk W gd 80 cs
  bel : Below w.heap.size w W
  h1 : w.heap.size ≤ gr
  h2 : w.heap.size ≤ gd
  ne : gr ≠ gd
theorem DS.drew {w W : World} {gr gd : Nat} {r : RD} {cs : Array Value} (h : DS w W gr gd r cs) : DS w W.drew gr gd r cs := ⟨h.rr, h.dd, h.bel.drew, h.h1, h.h2, h.ne⟩
theorem DS.step {w W W' : World} {gr gd : Nat} {r r' : RD} {cs : Array Value} (h : DS w W gr gd r cs) (h1 : Rdd W' gr r') (h2 : W.grownBy W' (some gr)) : DS w W' gr gd r' cs :=
  ⟨h1, h.dd.grown h2 (by intro e; injection e with e; exact h.ne e.symm), below_only h.bel h2 h.h1 h.bel.size, h.h1, h.h2, h.ne⟩
theorem DS.store {w W : World} {gr gd : Nat} {r : RD} {cs : Array Value} (h : DS w W gr gd r cs) (i : Nat) (v : Value) : DS w (W.setCell ⟨gd, i, none⟩ v) gr gd r (cs.setIfInBounds i v) :=
  ⟨Blk.far h.rr h.ne v, h.dd.set_ i v, h.bel.setCell h.h2 v, h.h1, h.h2, h.ne⟩
set_option maxHeartbeats 8000000 in
theorem web_any (l : List UInt8) (w : World) (hl : l.length ≤ 100000) :
    Calls Tryz.prog 141 #[.string ⟨l.toArray⟩] w (fun e w' => e = .returned (tOut (webC l)) ∧ Below w.heap.size w w') := by
  have HW : Hid (webC l = toldC (rdZone (rdPoint (web6 l).2)).2 ⟨(web1 l).1, (web2 l).1, (web3 l).1, (web4 l).1, (web5 l).1, (web6 l).1⟩ (rdZone (rdPoint (web6 l).2)).1) := rfl
  generalize webC l = res at *
  unfold tOut
  obtain ⟨en, hen⟩ : ∃ en : Int, (if res.isSome = true then (0 : Int) else 40) = en := ⟨_, rfl⟩
  obtain ⟨nn, hnn⟩ : ∃ nn : Int, res.getD 0 = nn := ⟨_, rfl⟩
  rw [hen, hnn]
  have E1 : Hid (web1 l = rdDig 4 ⟨l, false⟩) := rfl
  have E2 : Hid (web2 l = rdDig 2 (rdSign [45] (web1 l).2).2) := rfl
  have E3 : Hid (web3 l = rdDig 2 (rdSign [45] (web2 l).2).2) := rfl
  have E4 : Hid (web4 l = rdDig 2 (rdSign [84, 116] (web3 l).2).2) := rfl
  have E5 : Hid (web5 l = rdDig 2 (rdSign [58] (web4 l).2).2) := rfl
  have E6 : Hid (web6 l = rdDig 2 (rdSign [58] (web5 l).2).2) := rfl
  have B0 := bel_alloc (bel_alloc (Below.refl w.heap.size w) (.cells #[.string ⟨l.toArray⟩, .bool false] 151)) (.cells #[.int .i64 0, .int .i64 0, .int .i64 0, .int .i64 0, .int .i64 0, .int .i64 0] 80)
  have hS : DS w ((w.alloc (.cells #[.string ⟨l.toArray⟩, .bool false] 151)).alloc (.cells #[.int .i64 0, .int .i64 0, .int .i64 0, .int .i64 0, .int .i64 0, .int .i64 0] 80)) w.heap.size (w.heap.size + 1) ⟨l, false⟩ #[.int .i64 0, .int .i64 0, .int .i64 0, .int .i64 0, .int .i64 0, .int .i64 0] := by
    refine ⟨(Blk.new w _ _).alloc _, ?_, B0, Nat.le_refl _, by omega, by omega⟩
    have := Blk.new (w.alloc (.cells #[.string ⟨l.toArray⟩, .bool false] 151)) 80 #[.int .i64 0, .int .i64 0, .int .i64 0, .int .i64 0, .int .i64 0, .int .i64 0]
    simpa using this
  have L0 : (⟨l, false⟩ : RD).l.length ≤ 100000 := hl
  have H1 := Lib.hid (fun W k => rd_digits4 w.heap.size ⟨l, false⟩ W k hl)
  have l1 := len_dig 4 ⟨l, false⟩
  have b1 := dig4_bd ⟨l, false⟩
  rw [← E1.out] at H1 l1 b1
  generalize web1 l = q1 at *
  obtain ⟨v1, r1⟩ := q1
  simp only at H1 l1 b1 E2 HW
  have K2 := Lib.hid (fun W k => rd_sign w.heap.size [45] r1 W k (by simp only at *; omega) (by simp))
  have m2 := len_sign [45] r1
  generalize rdSign [45] r1 = p2 at *
  obtain ⟨_, s2⟩ := p2
  simp only at K2 m2 E2
  have H2 := Lib.hid (fun W k => rd_digits2 w.heap.size s2 W k (by simp only at *; omega))
  have l2 := len_dig 2 s2
  have b2 := dig2_bd s2
  rw [← E2.out] at H2 l2 b2
  generalize web2 l = q2 at *
  obtain ⟨v2, r2⟩ := q2
  simp only at H2 l2 b2 E3 HW
  have K3 := Lib.hid (fun W k => rd_sign w.heap.size [45] r2 W k (by simp only at *; omega) (by simp))
  have m3 := len_sign [45] r2
  generalize rdSign [45] r2 = p3 at *
  obtain ⟨_, s3⟩ := p3
  simp only at K3 m3 E3
  have H3 := Lib.hid (fun W k => rd_digits2 w.heap.size s3 W k (by simp only at *; omega))
  have l3 := len_dig 2 s3
  have b3 := dig2_bd s3
  rw [← E3.out] at H3 l3 b3
  generalize web3 l = q3 at *
  obtain ⟨v3, r3⟩ := q3
  simp only at H3 l3 b3 E4 HW
  have K4 := Lib.hid (fun W k => rd_sign w.heap.size [84, 116] r3 W k (by simp only at *; omega) (by simp))
  have m4 := len_sign [84, 116] r3
  generalize rdSign [84, 116] r3 = p4 at *
  obtain ⟨_, s4⟩ := p4
  simp only at K4 m4 E4
  have H4 := Lib.hid (fun W k => rd_digits2 w.heap.size s4 W k (by simp only at *; omega))
  have l4 := len_dig 2 s4
  have b4 := dig2_bd s4
  rw [← E4.out] at H4 l4 b4
  generalize web4 l = q4 at *
  obtain ⟨v4, r4⟩ := q4
  simp only at H4 l4 b4 E5 HW
  have K5 := Lib.hid (fun W k => rd_sign w.heap.size [58] r4 W k (by simp only at *; omega) (by simp))
  have m5 := len_sign [58] r4
  generalize rdSign [58] r4 = p5 at *
  obtain ⟨_, s5⟩ := p5
  simp only at K5 m5 E5
  have H5 := Lib.hid (fun W k => rd_digits2 w.heap.size s5 W k (by simp only at *; omega))
  have l5 := len_dig 2 s5
  have b5 := dig2_bd s5
  rw [← E5.out] at H5 l5 b5
  generalize web5 l = q5 at *
  obtain ⟨v5, r5⟩ := q5
  simp only at H5 l5 b5 E6 HW
  have K6 := Lib.hid (fun W k => rd_sign w.heap.size [58] r5 W k (by simp only at *; omega) (by simp))
  have m6 := len_sign [58] r5
  generalize rdSign [58] r5 = p6 at *
  obtain ⟨_, s6⟩ := p6
  simp only at K6 m6 E6
  have H6 := Lib.hid (fun W k => rd_digits2 w.heap.size s6 W k (by simp only at *; omega))
  have l6 := len_dig 2 s6
  have b6 := dig2_bd s6
  rw [← E6.out] at H6 l6 b6
  generalize web6 l = q6 at *
  obtain ⟨v6, r6⟩ := q6
  simp only at H6 l6 b6 HW
  have H7 := Lib.hid (fun W k => rd_point w.heap.size r6 W k (by simp only at *; omega))
  have l7 := len_point r6
  generalize rdPoint r6 = r7 at *
  have H8 := Lib.hid (fun W k => rd_zone w.heap.size r7 W k (by simp only at *; omega))
  have b8 := zone_bd r7
  generalize rdZone r7 = q8 at *
  obtain ⟨z, r8⟩ := q8
  simp only at H8 b8 HW
  have H9 := Lib.hid (fun W k => rd_told w.heap.size r8 ⟨v1, v2, v3, v4, v5, v6⟩ z W k (by omega) (by omega) (by simp only; omega) (by simp only; omega))
  rw [← HW.out] at H9
  simp only [Dt.val, Dt.cells, tOut, hen, hnn] at H9
  clear hen hnn
  clear HW E1 E2 E3 E4 E5 E6 l1 l2 l3 l4 l5 l6 m2 m3 m4 m5 m6 b1 b2 b3 b4 b5 b6 b8 l7
  go_enter Tryz.func141, Tryz.ntmps141
  go_wp2_with fail
  obtain ⟨gd, hgd⟩ : ∃ gd, gd = w.heap.size + 1 := ⟨_, rfl⟩
  rw [← hgd] at hS
  simp only [← hgd]
  generalize (w.alloc (.cells #[.string ⟨l.toArray⟩, .bool false] 151)).alloc (.cells #[.int .i64 0, .int .i64 0, .int .i64 0, .int .i64 0, .int .i64 0, .int .i64 0] 80) = w0 at *
  clear hgd B0
  (with_reducible refine (H1.out _ hS.rr).mono ?_)
  rintro e y1 ⟨rfl, hR, hg⟩
  have hU1 := hS.step hR hg
  have f_ := hU1.dd.frozen 0
  have c_ := hU1.dd.cell 0
  simp at c_
  have hV1 := hU1.store 0 (.int .i64 v1)
  simp at hV1
  clear hR hg hS hU1
  go_wp2_with fail
  clear f_ c_
  (with_reducible refine (K2.out _ hV1.rr).mono ?_)
  rintro e x2 ⟨rfl, hR, hg⟩
  have hT2 := hV1.step hR hg
  clear hR hg hV1
  go_wp2_with fail
  (with_reducible refine (H2.out _ hT2.rr).mono ?_)
  rintro e y2 ⟨rfl, hR, hg⟩
  have hU2 := hT2.step hR hg
  have f_ := hU2.dd.frozen 1
  have c_ := hU2.dd.cell 1
  simp at c_
  have hV2 := hU2.store 1 (.int .i64 v2)
  simp at hV2
  clear hR hg hT2 hU2
  go_wp2_with fail
  clear f_ c_
  (with_reducible refine (K3.out _ hV2.rr).mono ?_)
  rintro e x3 ⟨rfl, hR, hg⟩
  have hT3 := hV2.step hR hg
  clear hR hg hV2
  go_wp2_with fail
  (with_reducible refine (H3.out _ hT3.rr).mono ?_)
  rintro e y3 ⟨rfl, hR, hg⟩
  have hU3 := hT3.step hR hg
  have f_ := hU3.dd.frozen 2
  have c_ := hU3.dd.cell 2
  simp at c_
  have hV3 := hU3.store 2 (.int .i64 v3)
  simp at hV3
  clear hR hg hT3 hU3
  go_wp2_with fail
  clear f_ c_
  (with_reducible refine (K4.out _ hV3.rr).mono ?_)
  rintro e x4 ⟨rfl, hR, hg⟩
  have hT4 := hV3.step hR hg
  clear hR hg hV3
  go_wp2_with fail
  (with_reducible refine (H4.out _ hT4.rr).mono ?_)
  rintro e y4 ⟨rfl, hR, hg⟩
  have hU4 := hT4.step hR hg
  have f_ := hU4.dd.frozen 3
  have c_ := hU4.dd.cell 3
  simp at c_
  have hV4 := hU4.store 3 (.int .i64 v4)
  simp at hV4
  clear hR hg hT4 hU4
  go_wp2_with fail
  clear f_ c_
  (with_reducible refine (K5.out _ hV4.rr).mono ?_)
  rintro e x5 ⟨rfl, hR, hg⟩
  have hT5 := hV4.step hR hg
  clear hR hg hV4
  go_wp2_with fail
  (with_reducible refine (H5.out _ hT5.rr).mono ?_)
  rintro e y5 ⟨rfl, hR, hg⟩
  have hU5 := hT5.step hR hg
  have f_ := hU5.dd.frozen 4
  have c_ := hU5.dd.cell 4
  simp at c_
  have hV5 := hU5.store 4 (.int .i64 v5)
  simp at hV5
  clear hR hg hT5 hU5
  go_wp2_with fail
  clear f_ c_
  (with_reducible refine (K6.out _ hV5.rr).mono ?_)
  rintro e x6 ⟨rfl, hR, hg⟩
  have hT6 := hV5.step hR hg
  clear hR hg hV5
  go_wp2_with fail
  (with_reducible refine (H6.out _ hT6.rr).mono ?_)
  rintro e y6 ⟨rfl, hR, hg⟩
  have hU6 := hT6.step hR hg
  have f_ := hU6.dd.frozen 5
  have c_ := hU6.dd.cell 5
  simp at c_
  have hV6 := hU6.store 5 (.int .i64 v6)
  simp at hV6
  clear hR hg hT6 hU6
  go_wp2_with fail
  clear f_ c_
  (with_reducible refine (H7.out _ hV6.rr).mono ?_)
  rintro e y7 ⟨rfl, hR, hg⟩
  have hS7 := hV6.step hR hg
  clear hR hg hV6
  go_wp2_with fail
  refine wp_region_seqD (Onl w.heap.size) (Onl.refl w.heap.size) Onl.trans (by kernel_rfl) [(0, true), (1, true), (2, true), (3, false), (4, false), (5, true), (6, true), (7, true), (8, true)] (by kernel_rfl) rfl (by kernel_rfl) ?_
  have hS8 := hS7.drew
  clear hS7
  generalize y7.drew = w7 at *
  have cd : ∀ W, Onl w.heap.size w7 W → Blk W gd 80 #[.int .i64 v1, .int .i64 v2, .int .i64 v3, .int .i64 v4, .int .i64 v5, .int .i64 v6] := fun W hW => hS8.dd.grown hW (by intro e; injection e with e; exact hS8.ne e.symm)
  have c0 := fun W (hW : Onl w.heap.size w7 W) => (show W.cell? ⟨gd, 0, none⟩ = some (.int .i64 v1) from ((cd W hW).cell 0).trans rfl)
  have c1 := fun W (hW : Onl w.heap.size w7 W) => (show W.cell? ⟨gd, 1, none⟩ = some (.int .i64 v2) from ((cd W hW).cell 1).trans rfl)
  have c2 := fun W (hW : Onl w.heap.size w7 W) => (show W.cell? ⟨gd, 2, none⟩ = some (.int .i64 v3) from ((cd W hW).cell 2).trans rfl)
  have c3 := fun W (hW : Onl w.heap.size w7 W) => (show W.cell? ⟨gd, 3, none⟩ = some (.int .i64 v4) from ((cd W hW).cell 3).trans rfl)
  have c4 := fun W (hW : Onl w.heap.size w7 W) => (show W.cell? ⟨gd, 4, none⟩ = some (.int .i64 v5) from ((cd W hW).cell 4).trans rfl)
  have c5 := fun W (hW : Onl w.heap.size w7 W) => (show W.cell? ⟨gd, 5, none⟩ = some (.int .i64 v6) from ((cd W hW).cell 5).trans rfl)
  iterate 3 (refine wpSeqR_take (o := ⟨_, _, _, _, _, _⟩) (v := ?_) rfl rfl ?_ ?_; rotate_left; (focus (intro W hW; go_simp; first | done | with_reducible rfl)); simp only [Act.put, List.setIfInBounds_toArray, List.set_cons_zero, List.set_cons_succ])
  clear c0 c1 c2 c3 c4 c5 cd
  refine wpSeqR_exec (o := ⟨_, _, _, _, _, _⟩) rfl rfl (fun K hK => ?_)
  go_simp
  (with_reducible refine (H8.out _ hS8.rr).mono ?_)
  rintro e w8 ⟨rfl, hR, hg⟩
  have hS9 := hS8.step hR hg
  go_wp2_with fail
  refine hK _ _ hg ?_
  clear hK K hR hg hS8
  refine wpSeqR_exec (o := ⟨_, _, _, _, _, _⟩) rfl rfl (fun K hK => ?_)
  go_simp
  (with_reducible refine (H9.out _ hS9.rr).mono ?_)
  rintro e w9 ⟨rfl, hb⟩
  have B9 := bel_step hS9.bel hb
  go_wp2_with fail
  refine hK _ _ (only_of_below hb _) ?_
  clear hK K
  iterate 4 (refine wpSeqR_take (o := ⟨_, _, _, _, _, _⟩) (v := ?_) rfl rfl ?_ ?_; rotate_left; (focus (intro W hW; go_simp; first | done | with_reducible rfl)); simp only [Act.put, List.setIfInBounds_toArray, List.set_cons_zero, List.set_cons_succ])
  refine wpSeqR_nil ?_
  go_wp2_with fail
  go_ret2
  exact ⟨rfl, B9⟩
end Go.Proofs.YtjjlmkleidbmhaaGreatDoor
end
section
namespace Go.Proofs.YtjjlmkleidbmhaaGreatDoor
open Go.ChangeShapes Go.WideShapes Go.ChangeAt Go.Deep
open Go.RowKit Go.Nst
set_option maxRecDepth 100000
set_option linter.unusedVariables false
set_option linter.unusedSimpArgs false

theorem itoa26_any (n : Int) (w : World) (h0 : -9223372036854775808 ≤ n) (h1 : n ≤ 9223372036854775807) (hW : QpW w) : Calls Tryz.prog 60 #[.int .i64 n] w fun e w' => e = .returned (.string ⟨(Lib.itoa n).toArray⟩) ∧ Below w.heap.size w w' :=
  (Tryz.strconv_Itoa n h0 h1 w hW.tab).mono fun e w' ⟨he, k, os, hw⟩ => ⟨he, by rw [hw]; exact Lib.below_grow _ w (Nat.le_refl _) k os⟩
set_option maxHeartbeats 1000000 in
theorem number26_any (s : List UInt8) (w : World) (hs : s.length ≤ 512) (hW : QpW w) : Calls Tryz.prog 123 #[.string ⟨s.toArray⟩] w fun e w' => e = .returned (.int .i64 (numC s)) ∧ Below w.heap.size w w' := by
  have hz : (ByteArray.mk s.toArray).size = s.length := size_of s
  have HW := Lib.hid hW
  cases ha : Lib.atoiAll s with
  | ok v =>
    have HC := Lib.hid (Tryz.strconv_Atoi_ok ⟨s.toArray⟩ (by rw [hz]; omega) v (by simpa using ha) w)
    obtain ⟨v0, v1⟩ := Lib.atoiAll_bounds ha
    have HN : Hid (numC s = if 7 < s.length ∨ Lib.itoa v ≠ s then -1 else v) := Lib.hid (by unfold numC; rw [ha])
    clear ha hW
    by_cases h7 : 7 < s.length
    · have d7 : decide (7 < s.length) = true := by simpa using h7
      have e7 : (7 : Int) < (s.length : Int) := by omega
      go_enter Tryz.func123, Tryz.ntmps123
      go_wp2_with fail
      (with_reducible refine (HC.out).mono ?_)
      rintro _ w1 ⟨rfl, hw1⟩
      have hb1 : Below w.heap.size w w1 := by
        rcases hw1 with rfl | ⟨t, rfl⟩
        · exact Below.refl _ _
        · exact Lib.bytesWorld_below _ _ _
      clear hw1
      go_wp2_with fail
      go_ret
      rw [HN.out, if_pos (.inl h7)]
      exact ⟨rfl, hb1⟩
    · have d7 : decide (7 < s.length) = false := by simpa using h7
      have e7 : ¬ (7 : Int) < (s.length : Int) := by omega
      go_enter Tryz.func123, Tryz.ntmps123
      go_wp2_with fail
      (with_reducible refine (HC.out).mono ?_)
      rintro _ w1 ⟨rfl, hw1⟩
      have hb1 : Below w.heap.size w w1 := by
        rcases hw1 with rfl | ⟨t, rfl⟩
        · exact Below.refl _ _
        · exact Lib.bytesWorld_below _ _ _
      clear hw1
      have HI := Lib.hid (itoa26_any v w1 v0 v1 (HW.out.keep hb1))
      cases hi : (Lib.itoa v == s) with
      | true =>
        go_wp2_with fail
        (with_reducible refine (HI.out).mono ?_)
        rintro _ w2 ⟨rfl, hb2⟩
        go_wp2_with fail
        go_ret
        have hi : Lib.itoa v = s := by simpa using hi
        rw [HN.out, if_neg (by rintro (h | h); exact h7 h; exact h hi)]
        exact ⟨rfl, bel_step hb1 hb2⟩
      | false =>
        go_wp2_with fail
        (with_reducible refine (HI.out).mono ?_)
        rintro _ w2 ⟨rfl, hb2⟩
        go_wp2_with fail
        go_ret
        have hi : Lib.itoa v ≠ s := by simpa using hi
        rw [HN.out, if_pos (.inr hi)]
        exact ⟨rfl, bel_step hb1 hb2⟩
  | range =>
    obtain ⟨te, pe, hv⟩ := hW.rng
    have HC := Lib.hid (Tryz.strconv_Atoi_range ⟨s.toArray⟩ (by rw [hz]; omega) (by simpa using ha) _ w hv (.inr ⟨_, _, rfl⟩))
    have HN : Hid (numC s = -1) := Lib.hid (by unfold numC; rw [ha])
    clear ha hW hv
    go_enter Tryz.func123, Tryz.ntmps123
    go_wp2_with fail
    (with_reducible refine (HC.out).mono ?_)
    rintro _ w1 ⟨N, rfl, hn, hc, hb1⟩
    clear hc
    go_wp2_with fail
    go_ret
    rw [HN.out]
    exact ⟨rfl, hb1⟩
  | _ =>
    obtain ⟨te, pe, hv⟩ := hW.syn
    have ha2 : Lib.atoiAll (ByteArray.mk s.toArray).data.toList = Lib.atoiAll s := by simp
    have HC := Lib.hid (Tryz.strconv_Atoi_syntax ⟨s.toArray⟩ (by rw [hz]; omega) _ (ha2.trans ha) (fun v e => by cases e) (fun e => by cases e) _ w hv (.inr ⟨_, _, rfl⟩))
    clear ha2
    have HN : Hid (numC s = -1) := Lib.hid (by unfold numC; rw [ha])
    clear ha hW hv
    go_enter Tryz.func123, Tryz.ntmps123
    go_wp2_with fail
    (with_reducible refine (HC.out).mono ?_)
    rintro _ w1 ⟨N, rfl, hn, hc, hb1⟩
    clear hc
    go_wp2_with fail
    go_ret
    rw [HN.out]
    exact ⟨rfl, hb1⟩
end Go.Proofs.YtjjlmkleidbmhaaGreatDoor
end
section
namespace Go.Proofs.YtjjlmkleidbmhaaGreatDoor
open Go.ChangeShapes Go.WideShapes Go.ChangeAt Go.Deep
open Go.RowKit Go.Nst
set_option maxRecDepth 100000
set_option linter.unusedVariables false
set_option linter.unusedSimpArgs false

theorem ba_app26 (a b : List UInt8) : (ByteArray.mk a.toArray) ++ (ByteArray.mk b.toArray) = ⟨(a ++ b).toArray⟩ := by
  apply ByteArray.ext
  simp [ByteArray.data_append]
theorem moment26_any (s : List UInt8) (w : World) (hs : s.length ≤ 512) : Calls Tryz.prog 124 #[.string ⟨s.toArray⟩] w fun e w' => e = .returned (.tuple #[.int .i64 ((momT s).getD 0), .bool (momT s).isSome]) ∧ Below w.heap.size w w' := by
  have hz : (ByteArray.mk s.toArray).size = s.length := size_of s
  by_cases h10 : s.length = 10
  · have HC := web_any (s ++ tailZ) w (by simp [tailZ]; omega)
    rw [web_same, ← ba_app26] at HC
    have HM : Hid (momT s = webR (s ++ tailZ)) := Lib.hid (by unfold momT; rw [if_pos h10])
    unfold tOut at HC
    rw [← HM.out] at HC
    have HC := Lib.hid HC
    generalize momT s = o at *
    simp only [tailZ] at HC
    have d1 : ((s.length : Int) == 10) = true := by rw [beq_iff_eq]; omega
    cases o with
    | none =>
      go_enter Tryz.func124, Tryz.ntmps124
      go_wp2_with fail
      (with_reducible refine (HC.out).mono ?_)
      rintro _ w1 ⟨rfl, hb1⟩
      go_wp2_with fail
      go_ret2
      exact ⟨rfl, hb1⟩
    | some n =>
      go_enter Tryz.func124, Tryz.ntmps124
      go_wp2_with fail
      (with_reducible refine (HC.out).mono ?_)
      rintro _ w1 ⟨rfl, hb1⟩
      go_wp2_with fail
      go_ret2
      exact ⟨rfl, hb1⟩
  · have HC := web_any s w (by omega)
    rw [web_same] at HC
    have HM : Hid (momT s = webR s) := Lib.hid (by unfold momT; rw [if_neg h10])
    unfold tOut at HC
    rw [← HM.out] at HC
    have HC := Lib.hid HC
    generalize momT s = o at *
    have d1 : ((s.length : Int) == 10) = false := by rw [beq_eq_false_iff_ne]; omega
    cases o with
    | none =>
      go_enter Tryz.func124, Tryz.ntmps124
      go_wp2_with fail
      (with_reducible refine (HC.out).mono ?_)
      rintro _ w1 ⟨rfl, hb1⟩
      go_wp2_with fail
      go_ret2
      exact ⟨rfl, hb1⟩
    | some n =>
      go_enter Tryz.func124, Tryz.ntmps124
      go_wp2_with fail
      (with_reducible refine (HC.out).mono ?_)
      rintro _ w1 ⟨rfl, hb1⟩
      go_wp2_with fail
      go_ret2
      exact ⟨rfl, hb1⟩
/-- a leaf and a truth, handed back -/
def RetLf (w : World) (o n : Int) (t : List UInt8) (b : Bool) (e : Ending) (w' : World) : Prop := e = .returned (.tuple #[.agg #[.int .i64 o, .int .i64 n, .string ⟨t.toArray⟩, .slice none 0 0], .bool b]) ∧ Below w.heap.size w w'
/-- what the code's named answers -/
def nmC (nm s : List UInt8) : Qy × Bool :=
  if nm = [102, 101, 101, 100] then (⟨6, numC s, [], []⟩, true) else
  if nm = [102, 111, 108, 100, 101, 114] then (⟨7, numC s, [], []⟩, true) else
  if nm = [119, 105, 116, 104, 105, 110] then (⟨15, numC s, [], []⟩, true) else
  if nm = [98, 101, 102, 111, 114, 101] then (⟨13, (momT s).getD 0, [], []⟩, (momT s).isSome) else
  if nm = [115, 105, 110, 99, 101] then (⟨14, (momT s).getD 0, [], []⟩, (momT s).isSome) else
  if nm = [116, 97, 103] then (⟨8, 0, foldT s, []⟩, true) else
  if nm = [119, 111, 114, 100] then (⟨11, 0, foldT s, []⟩, true) else
  if nm = [98, 101, 103, 105, 110, 115] then (⟨12, 0, foldT s, []⟩, true) else
  (⟨0, 0, [], []⟩, false)
set_option maxHeartbeats 1000000 in
theorem named26_feed (s : List UInt8) (w : World) (hs : s.length ≤ 512) (hW : QpW w) : Calls Tryz.prog 105 #[.string ⟨([102, 101, 101, 100] : List UInt8).toArray⟩, .string ⟨s.toArray⟩] w (RetLf w 6 (numC s) [] true) := by
  have B0 := Lib.hid (bel_alloc (Below.refl w.heap.size w) (.cells #[.int .i64 0, .int .i64 0, .string ⟨#[]⟩, .slice none 0 0] 25))
  have X0 := Lib.hid (Blk.new w 25 #[.int .i64 0, .int .i64 0, .string ⟨#[]⟩, .slice none 0 0])
  have HN := Lib.hid (number26_any s _ hs (hW.keep B0.out))
  have hz : (ByteArray.mk s.toArray).size = s.length := size_of s
  have HF := Lib.hid (fun W => fold_any5 ⟨s.toArray⟩ W (by omega))
  rw [bl_of] at HF
  have HM := Lib.hid (fun W => moment26_any s W hs)
  generalize numC s = cn at *
  generalize foldT s = ct at *
  generalize momT s = cm at *
  clear hW
  go_enter Tryz.func105, Tryz.ntmps105
  go_wp2_with fail
  (with_reducible refine (HN.out).mono ?_)
  rintro _ w1 ⟨rfl, hb1⟩
  have HB1 := Lib.hid hb1
  have hz1 := hb1.size
  simp at hz1
  clear hb1
  go_wp2_with fail
  (with_reducible refine (HF.out _).mono ?_)
  rintro _ w2 ⟨rfl, hb2⟩
  have HB2 := Lib.hid hb2
  have hz2 := hb2.size
  have HX2 := Lib.hid ((X0.out.below HB1.out X0.out.lt).below hb2 (by omega))
  have HB02 := Lib.hid (bel_step B0.out (bel_step HB1.out HB2.out))
  clear hb2
  obtain ⟨k0, k1, k2, k3, k4, k5⟩ := res_facts HX2.out
  go_wp2_with fail
  have y := set4 HX2.out (.int .i64 6) (.int .i64 cn) (.string ⟨#[]⟩) (.slice none 0 0)
  have y0 := y.cell 0
  have y1 := y.cell 1
  have y2 := y.cell 2
  have y3 := y.cell 3
  simp at y0 y1 y2 y3
  try simp only [Exit.inBlock, Exit.then]
  exact bodyPost_ret (v := .tuple #[.agg #[.int .i64 6, .int .i64 cn, .string ⟨#[]⟩, .slice none 0 0], .bool true]) (by simp [results, Tryz.results105, go_sem, y0, y1, y2, y3]) rfl ⟨rfl, bel4 HB02.out (Nat.le_refl _) _ _ _ _⟩
set_option maxHeartbeats 1000000 in
theorem named26_folder (s : List UInt8) (w : World) (hs : s.length ≤ 512) (hW : QpW w) : Calls Tryz.prog 105 #[.string ⟨([102, 111, 108, 100, 101, 114] : List UInt8).toArray⟩, .string ⟨s.toArray⟩] w (RetLf w 7 (numC s) [] true) := by
  have B0 := Lib.hid (bel_alloc (Below.refl w.heap.size w) (.cells #[.int .i64 0, .int .i64 0, .string ⟨#[]⟩, .slice none 0 0] 25))
  have X0 := Lib.hid (Blk.new w 25 #[.int .i64 0, .int .i64 0, .string ⟨#[]⟩, .slice none 0 0])
  have HN := Lib.hid (number26_any s _ hs (hW.keep B0.out))
  have hz : (ByteArray.mk s.toArray).size = s.length := size_of s
  have HF := Lib.hid (fun W => fold_any5 ⟨s.toArray⟩ W (by omega))
  rw [bl_of] at HF
  have HM := Lib.hid (fun W => moment26_any s W hs)
  generalize numC s = cn at *
  generalize foldT s = ct at *
  generalize momT s = cm at *
  clear hW
  go_enter Tryz.func105, Tryz.ntmps105
  go_wp2_with fail
  (with_reducible refine (HN.out).mono ?_)
  rintro _ w1 ⟨rfl, hb1⟩
  have HB1 := Lib.hid hb1
  have hz1 := hb1.size
  simp at hz1
  clear hb1
  go_wp2_with fail
  (with_reducible refine (HF.out _).mono ?_)
  rintro _ w2 ⟨rfl, hb2⟩
  have HB2 := Lib.hid hb2
  have hz2 := hb2.size
  have HX2 := Lib.hid ((X0.out.below HB1.out X0.out.lt).below hb2 (by omega))
  have HB02 := Lib.hid (bel_step B0.out (bel_step HB1.out HB2.out))
  clear hb2
  obtain ⟨k0, k1, k2, k3, k4, k5⟩ := res_facts HX2.out
  go_wp2_with fail
  have y := set4 HX2.out (.int .i64 7) (.int .i64 cn) (.string ⟨#[]⟩) (.slice none 0 0)
  have y0 := y.cell 0
  have y1 := y.cell 1
  have y2 := y.cell 2
  have y3 := y.cell 3
  simp at y0 y1 y2 y3
  try simp only [Exit.inBlock, Exit.then]
  exact bodyPost_ret (v := .tuple #[.agg #[.int .i64 7, .int .i64 cn, .string ⟨#[]⟩, .slice none 0 0], .bool true]) (by simp [results, Tryz.results105, go_sem, y0, y1, y2, y3]) rfl ⟨rfl, bel4 HB02.out (Nat.le_refl _) _ _ _ _⟩
set_option maxHeartbeats 1000000 in
theorem named26_within (s : List UInt8) (w : World) (hs : s.length ≤ 512) (hW : QpW w) : Calls Tryz.prog 105 #[.string ⟨([119, 105, 116, 104, 105, 110] : List UInt8).toArray⟩, .string ⟨s.toArray⟩] w (RetLf w 15 (numC s) [] true) := by
  have B0 := Lib.hid (bel_alloc (Below.refl w.heap.size w) (.cells #[.int .i64 0, .int .i64 0, .string ⟨#[]⟩, .slice none 0 0] 25))
  have X0 := Lib.hid (Blk.new w 25 #[.int .i64 0, .int .i64 0, .string ⟨#[]⟩, .slice none 0 0])
  have HN := Lib.hid (number26_any s _ hs (hW.keep B0.out))
  have hz : (ByteArray.mk s.toArray).size = s.length := size_of s
  have HF := Lib.hid (fun W => fold_any5 ⟨s.toArray⟩ W (by omega))
  rw [bl_of] at HF
  have HM := Lib.hid (fun W => moment26_any s W hs)
  generalize numC s = cn at *
  generalize foldT s = ct at *
  generalize momT s = cm at *
  clear hW
  go_enter Tryz.func105, Tryz.ntmps105
  go_wp2_with fail
  (with_reducible refine (HN.out).mono ?_)
  rintro _ w1 ⟨rfl, hb1⟩
  have HB1 := Lib.hid hb1
  have hz1 := hb1.size
  simp at hz1
  clear hb1
  go_wp2_with fail
  (with_reducible refine (HF.out _).mono ?_)
  rintro _ w2 ⟨rfl, hb2⟩
  have HB2 := Lib.hid hb2
  have hz2 := hb2.size
  have HX2 := Lib.hid ((X0.out.below HB1.out X0.out.lt).below hb2 (by omega))
  have HB02 := Lib.hid (bel_step B0.out (bel_step HB1.out HB2.out))
  clear hb2
  obtain ⟨k0, k1, k2, k3, k4, k5⟩ := res_facts HX2.out
  go_wp2_with fail
  have y := set4 HX2.out (.int .i64 15) (.int .i64 cn) (.string ⟨#[]⟩) (.slice none 0 0)
  have y0 := y.cell 0
  have y1 := y.cell 1
  have y2 := y.cell 2
  have y3 := y.cell 3
  simp at y0 y1 y2 y3
  try simp only [Exit.inBlock, Exit.then]
  exact bodyPost_ret (v := .tuple #[.agg #[.int .i64 15, .int .i64 cn, .string ⟨#[]⟩, .slice none 0 0], .bool true]) (by simp [results, Tryz.results105, go_sem, y0, y1, y2, y3]) rfl ⟨rfl, bel4 HB02.out (Nat.le_refl _) _ _ _ _⟩
set_option maxHeartbeats 1000000 in
theorem named26_before (s : List UInt8) (w : World) (hs : s.length ≤ 512) (hW : QpW w) : Calls Tryz.prog 105 #[.string ⟨([98, 101, 102, 111, 114, 101] : List UInt8).toArray⟩, .string ⟨s.toArray⟩] w (RetLf w 13 ((momT s).getD 0) [] (momT s).isSome) := by
  have B0 := Lib.hid (bel_alloc (Below.refl w.heap.size w) (.cells #[.int .i64 0, .int .i64 0, .string ⟨#[]⟩, .slice none 0 0] 25))
  have X0 := Lib.hid (Blk.new w 25 #[.int .i64 0, .int .i64 0, .string ⟨#[]⟩, .slice none 0 0])
  have HN := Lib.hid (number26_any s _ hs (hW.keep B0.out))
  have hz : (ByteArray.mk s.toArray).size = s.length := size_of s
  have HF := Lib.hid (fun W => fold_any5 ⟨s.toArray⟩ W (by omega))
  rw [bl_of] at HF
  have HM := Lib.hid (fun W => moment26_any s W hs)
  generalize numC s = cn at *
  generalize foldT s = ct at *
  generalize momT s = cm at *
  clear hW
  go_enter Tryz.func105, Tryz.ntmps105
  go_wp2_with fail
  (with_reducible refine (HN.out).mono ?_)
  rintro _ w1 ⟨rfl, hb1⟩
  have HB1 := Lib.hid hb1
  have hz1 := hb1.size
  simp at hz1
  clear hb1
  go_wp2_with fail
  (with_reducible refine (HF.out _).mono ?_)
  rintro _ w2 ⟨rfl, hb2⟩
  have HB2 := Lib.hid hb2
  have hz2 := hb2.size
  have HX2 := Lib.hid ((X0.out.below HB1.out X0.out.lt).below hb2 (by omega))
  have HB02 := Lib.hid (bel_step B0.out (bel_step HB1.out HB2.out))
  clear hb2
  go_wp2_with fail
  (with_reducible refine (HM.out _).mono ?_)
  rintro _ w3 ⟨rfl, hb3⟩
  have HB3 := Lib.hid hb3
  have hz3 := hb3.size
  have HX3 := Lib.hid (HX2.out.below hb3 (by omega))
  have HB03 := Lib.hid (bel_step HB02.out hb3)
  clear hb3
  obtain ⟨k0, k1, k2, k3, k4, k5⟩ := res_facts HX3.out
  go_wp2_with fail
  have y := set4 HX3.out (.int .i64 13) (.int .i64 (cm.getD 0)) (.string ⟨#[]⟩) (.slice none 0 0)
  have y0 := y.cell 0
  have y1 := y.cell 1
  have y2 := y.cell 2
  have y3 := y.cell 3
  simp at y0 y1 y2 y3
  try simp only [Exit.inBlock, Exit.then]
  exact bodyPost_ret (v := .tuple #[.agg #[.int .i64 13, .int .i64 (cm.getD 0), .string ⟨#[]⟩, .slice none 0 0], .bool cm.isSome]) (by simp [results, Tryz.results105, go_sem, y0, y1, y2, y3]) rfl ⟨rfl, bel4 HB03.out (Nat.le_refl _) _ _ _ _⟩
set_option maxHeartbeats 1000000 in
theorem named26_since (s : List UInt8) (w : World) (hs : s.length ≤ 512) (hW : QpW w) : Calls Tryz.prog 105 #[.string ⟨([115, 105, 110, 99, 101] : List UInt8).toArray⟩, .string ⟨s.toArray⟩] w (RetLf w 14 ((momT s).getD 0) [] (momT s).isSome) := by
  have B0 := Lib.hid (bel_alloc (Below.refl w.heap.size w) (.cells #[.int .i64 0, .int .i64 0, .string ⟨#[]⟩, .slice none 0 0] 25))
  have X0 := Lib.hid (Blk.new w 25 #[.int .i64 0, .int .i64 0, .string ⟨#[]⟩, .slice none 0 0])
  have HN := Lib.hid (number26_any s _ hs (hW.keep B0.out))
  have hz : (ByteArray.mk s.toArray).size = s.length := size_of s
  have HF := Lib.hid (fun W => fold_any5 ⟨s.toArray⟩ W (by omega))
  rw [bl_of] at HF
  have HM := Lib.hid (fun W => moment26_any s W hs)
  generalize numC s = cn at *
  generalize foldT s = ct at *
  generalize momT s = cm at *
  clear hW
  go_enter Tryz.func105, Tryz.ntmps105
  go_wp2_with fail
  (with_reducible refine (HN.out).mono ?_)
  rintro _ w1 ⟨rfl, hb1⟩
  have HB1 := Lib.hid hb1
  have hz1 := hb1.size
  simp at hz1
  clear hb1
  go_wp2_with fail
  (with_reducible refine (HF.out _).mono ?_)
  rintro _ w2 ⟨rfl, hb2⟩
  have HB2 := Lib.hid hb2
  have hz2 := hb2.size
  have HX2 := Lib.hid ((X0.out.below HB1.out X0.out.lt).below hb2 (by omega))
  have HB02 := Lib.hid (bel_step B0.out (bel_step HB1.out HB2.out))
  clear hb2
  go_wp2_with fail
  (with_reducible refine (HM.out _).mono ?_)
  rintro _ w3 ⟨rfl, hb3⟩
  have HB3 := Lib.hid hb3
  have hz3 := hb3.size
  have HX3 := Lib.hid (HX2.out.below hb3 (by omega))
  have HB03 := Lib.hid (bel_step HB02.out hb3)
  clear hb3
  obtain ⟨k0, k1, k2, k3, k4, k5⟩ := res_facts HX3.out
  go_wp2_with fail
  have y := set4 HX3.out (.int .i64 14) (.int .i64 (cm.getD 0)) (.string ⟨#[]⟩) (.slice none 0 0)
  have y0 := y.cell 0
  have y1 := y.cell 1
  have y2 := y.cell 2
  have y3 := y.cell 3
  simp at y0 y1 y2 y3
  try simp only [Exit.inBlock, Exit.then]
  exact bodyPost_ret (v := .tuple #[.agg #[.int .i64 14, .int .i64 (cm.getD 0), .string ⟨#[]⟩, .slice none 0 0], .bool cm.isSome]) (by simp [results, Tryz.results105, go_sem, y0, y1, y2, y3]) rfl ⟨rfl, bel4 HB03.out (Nat.le_refl _) _ _ _ _⟩
set_option maxHeartbeats 1000000 in
theorem named26_tag (s : List UInt8) (w : World) (hs : s.length ≤ 512) (hW : QpW w) : Calls Tryz.prog 105 #[.string ⟨([116, 97, 103] : List UInt8).toArray⟩, .string ⟨s.toArray⟩] w (RetLf w 8 0 (foldT s) true) := by
  have B0 := Lib.hid (bel_alloc (Below.refl w.heap.size w) (.cells #[.int .i64 0, .int .i64 0, .string ⟨#[]⟩, .slice none 0 0] 25))
  have X0 := Lib.hid (Blk.new w 25 #[.int .i64 0, .int .i64 0, .string ⟨#[]⟩, .slice none 0 0])
  have HN := Lib.hid (number26_any s _ hs (hW.keep B0.out))
  have hz : (ByteArray.mk s.toArray).size = s.length := size_of s
  have HF := Lib.hid (fun W => fold_any5 ⟨s.toArray⟩ W (by omega))
  rw [bl_of] at HF
  have HM := Lib.hid (fun W => moment26_any s W hs)
  generalize numC s = cn at *
  generalize foldT s = ct at *
  generalize momT s = cm at *
  clear hW
  go_enter Tryz.func105, Tryz.ntmps105
  go_wp2_with fail
  (with_reducible refine (HN.out).mono ?_)
  rintro _ w1 ⟨rfl, hb1⟩
  have HB1 := Lib.hid hb1
  have hz1 := hb1.size
  simp at hz1
  clear hb1
  go_wp2_with fail
  (with_reducible refine (HF.out _).mono ?_)
  rintro _ w2 ⟨rfl, hb2⟩
  have HB2 := Lib.hid hb2
  have hz2 := hb2.size
  have HX2 := Lib.hid ((X0.out.below HB1.out X0.out.lt).below hb2 (by omega))
  have HB02 := Lib.hid (bel_step B0.out (bel_step HB1.out HB2.out))
  clear hb2
  obtain ⟨k0, k1, k2, k3, k4, k5⟩ := res_facts HX2.out
  go_wp2_with fail
  have y := set4 HX2.out (.int .i64 8) (.int .i64 0) (.string ⟨ct.toArray⟩) (.slice none 0 0)
  have y0 := y.cell 0
  have y1 := y.cell 1
  have y2 := y.cell 2
  have y3 := y.cell 3
  simp at y0 y1 y2 y3
  try simp only [Exit.inBlock, Exit.then]
  exact bodyPost_ret (v := .tuple #[.agg #[.int .i64 8, .int .i64 0, .string ⟨ct.toArray⟩, .slice none 0 0], .bool true]) (by simp [results, Tryz.results105, go_sem, y0, y1, y2, y3]) rfl ⟨rfl, bel4 HB02.out (Nat.le_refl _) _ _ _ _⟩
set_option maxHeartbeats 1000000 in
theorem named26_word (s : List UInt8) (w : World) (hs : s.length ≤ 512) (hW : QpW w) : Calls Tryz.prog 105 #[.string ⟨([119, 111, 114, 100] : List UInt8).toArray⟩, .string ⟨s.toArray⟩] w (RetLf w 11 0 (foldT s) true) := by
  have B0 := Lib.hid (bel_alloc (Below.refl w.heap.size w) (.cells #[.int .i64 0, .int .i64 0, .string ⟨#[]⟩, .slice none 0 0] 25))
  have X0 := Lib.hid (Blk.new w 25 #[.int .i64 0, .int .i64 0, .string ⟨#[]⟩, .slice none 0 0])
  have HN := Lib.hid (number26_any s _ hs (hW.keep B0.out))
  have hz : (ByteArray.mk s.toArray).size = s.length := size_of s
  have HF := Lib.hid (fun W => fold_any5 ⟨s.toArray⟩ W (by omega))
  rw [bl_of] at HF
  have HM := Lib.hid (fun W => moment26_any s W hs)
  generalize numC s = cn at *
  generalize foldT s = ct at *
  generalize momT s = cm at *
  clear hW
  go_enter Tryz.func105, Tryz.ntmps105
  go_wp2_with fail
  (with_reducible refine (HN.out).mono ?_)
  rintro _ w1 ⟨rfl, hb1⟩
  have HB1 := Lib.hid hb1
  have hz1 := hb1.size
  simp at hz1
  clear hb1
  go_wp2_with fail
  (with_reducible refine (HF.out _).mono ?_)
  rintro _ w2 ⟨rfl, hb2⟩
  have HB2 := Lib.hid hb2
  have hz2 := hb2.size
  have HX2 := Lib.hid ((X0.out.below HB1.out X0.out.lt).below hb2 (by omega))
  have HB02 := Lib.hid (bel_step B0.out (bel_step HB1.out HB2.out))
  clear hb2
  obtain ⟨k0, k1, k2, k3, k4, k5⟩ := res_facts HX2.out
  go_wp2_with fail
  have y := set4 HX2.out (.int .i64 11) (.int .i64 0) (.string ⟨ct.toArray⟩) (.slice none 0 0)
  have y0 := y.cell 0
  have y1 := y.cell 1
  have y2 := y.cell 2
  have y3 := y.cell 3
  simp at y0 y1 y2 y3
  try simp only [Exit.inBlock, Exit.then]
  exact bodyPost_ret (v := .tuple #[.agg #[.int .i64 11, .int .i64 0, .string ⟨ct.toArray⟩, .slice none 0 0], .bool true]) (by simp [results, Tryz.results105, go_sem, y0, y1, y2, y3]) rfl ⟨rfl, bel4 HB02.out (Nat.le_refl _) _ _ _ _⟩
set_option maxHeartbeats 1000000 in
theorem named26_begins (s : List UInt8) (w : World) (hs : s.length ≤ 512) (hW : QpW w) : Calls Tryz.prog 105 #[.string ⟨([98, 101, 103, 105, 110, 115] : List UInt8).toArray⟩, .string ⟨s.toArray⟩] w (RetLf w 12 0 (foldT s) true) := by
  have B0 := Lib.hid (bel_alloc (Below.refl w.heap.size w) (.cells #[.int .i64 0, .int .i64 0, .string ⟨#[]⟩, .slice none 0 0] 25))
  have X0 := Lib.hid (Blk.new w 25 #[.int .i64 0, .int .i64 0, .string ⟨#[]⟩, .slice none 0 0])
  have HN := Lib.hid (number26_any s _ hs (hW.keep B0.out))
  have hz : (ByteArray.mk s.toArray).size = s.length := size_of s
  have HF := Lib.hid (fun W => fold_any5 ⟨s.toArray⟩ W (by omega))
  rw [bl_of] at HF
  have HM := Lib.hid (fun W => moment26_any s W hs)
  generalize numC s = cn at *
  generalize foldT s = ct at *
  generalize momT s = cm at *
  clear hW
  go_enter Tryz.func105, Tryz.ntmps105
  go_wp2_with fail
  (with_reducible refine (HN.out).mono ?_)
  rintro _ w1 ⟨rfl, hb1⟩
  have HB1 := Lib.hid hb1
  have hz1 := hb1.size
  simp at hz1
  clear hb1
  go_wp2_with fail
  (with_reducible refine (HF.out _).mono ?_)
  rintro _ w2 ⟨rfl, hb2⟩
  have HB2 := Lib.hid hb2
  have hz2 := hb2.size
  have HX2 := Lib.hid ((X0.out.below HB1.out X0.out.lt).below hb2 (by omega))
  have HB02 := Lib.hid (bel_step B0.out (bel_step HB1.out HB2.out))
  clear hb2
  obtain ⟨k0, k1, k2, k3, k4, k5⟩ := res_facts HX2.out
  go_wp2_with fail
  have y := set4 HX2.out (.int .i64 12) (.int .i64 0) (.string ⟨ct.toArray⟩) (.slice none 0 0)
  have y0 := y.cell 0
  have y1 := y.cell 1
  have y2 := y.cell 2
  have y3 := y.cell 3
  simp at y0 y1 y2 y3
  try simp only [Exit.inBlock, Exit.then]
  exact bodyPost_ret (v := .tuple #[.agg #[.int .i64 12, .int .i64 0, .string ⟨ct.toArray⟩, .slice none 0 0], .bool true]) (by simp [results, Tryz.results105, go_sem, y0, y1, y2, y3]) rfl ⟨rfl, bel4 HB02.out (Nat.le_refl _) _ _ _ _⟩
set_option maxHeartbeats 1000000 in
theorem named26_none (nm s : List UInt8) (w : World) (hs : s.length ≤ 512) (hW : QpW w) (d0 : (nm == [102, 101, 101, 100]) = false) (d1 : (nm == [102, 111, 108, 100, 101, 114]) = false) (d2 : (nm == [119, 105, 116, 104, 105, 110]) = false) (d3 : (nm == [98, 101, 102, 111, 114, 101]) = false) (d4 : (nm == [115, 105, 110, 99, 101]) = false) (d5 : (nm == [116, 97, 103]) = false) (d6 : (nm == [119, 111, 114, 100]) = false) (d7 : (nm == [98, 101, 103, 105, 110, 115]) = false) : Calls Tryz.prog 105 #[.string ⟨nm.toArray⟩, .string ⟨s.toArray⟩] w (RetLf w 0 0 [] false) := by
  have B0 := Lib.hid (bel_alloc (Below.refl w.heap.size w) (.cells #[.int .i64 0, .int .i64 0, .string ⟨#[]⟩, .slice none 0 0] 25))
  have X0 := Lib.hid (Blk.new w 25 #[.int .i64 0, .int .i64 0, .string ⟨#[]⟩, .slice none 0 0])
  have HN := Lib.hid (number26_any s _ hs (hW.keep B0.out))
  have hz : (ByteArray.mk s.toArray).size = s.length := size_of s
  have HF := Lib.hid (fun W => fold_any5 ⟨s.toArray⟩ W (by omega))
  rw [bl_of] at HF
  have HM := Lib.hid (fun W => moment26_any s W hs)
  generalize numC s = cn at *
  generalize foldT s = ct at *
  generalize momT s = cm at *
  clear hW
  go_enter Tryz.func105, Tryz.ntmps105
  go_wp2_with fail
  (with_reducible refine (HN.out).mono ?_)
  rintro _ w1 ⟨rfl, hb1⟩
  have HB1 := Lib.hid hb1
  have hz1 := hb1.size
  simp at hz1
  clear hb1
  go_wp2_with fail
  (with_reducible refine (HF.out _).mono ?_)
  rintro _ w2 ⟨rfl, hb2⟩
  have HB2 := Lib.hid hb2
  have hz2 := hb2.size
  have HX2 := Lib.hid ((X0.out.below HB1.out X0.out.lt).below hb2 (by omega))
  have HB02 := Lib.hid (bel_step B0.out (bel_step HB1.out HB2.out))
  clear hb2
  obtain ⟨k0, k1, k2, k3, k4, k5⟩ := res_facts HX2.out
  go_wp2_with fail
  have y := set4 HX2.out (.int .i64 0) (.int .i64 0) (.string ⟨#[]⟩) (.slice none 0 0)
  have y0 := y.cell 0
  have y1 := y.cell 1
  have y2 := y.cell 2
  have y3 := y.cell 3
  simp at y0 y1 y2 y3
  try simp only [Exit.inBlock, Exit.then]
  exact bodyPost_ret (v := .tuple #[.agg #[.int .i64 0, .int .i64 0, .string ⟨#[]⟩, .slice none 0 0], .bool false]) (by simp [results, Tryz.results105, go_sem, y0, y1, y2, y3]) rfl ⟨rfl, bel4 HB02.out (Nat.le_refl _) _ _ _ _⟩
theorem named26_any (nm s : List UInt8) (w : World) (hs : s.length ≤ 512) (hW : QpW w) : Calls Tryz.prog 105 #[.string ⟨nm.toArray⟩, .string ⟨s.toArray⟩] w (RetLf w (nmC nm s).1.op (nmC nm s).1.n (nmC nm s).1.s (nmC nm s).2) := by
  unfold nmC
  by_cases h0 : nm = [102, 101, 101, 100]
  · subst h0
    rw [if_pos rfl]; exact named26_feed s w hs hW
  by_cases h1 : nm = [102, 111, 108, 100, 101, 114]
  · subst h1
    rw [if_neg (by decide), if_pos rfl]; exact named26_folder s w hs hW
  by_cases h2 : nm = [119, 105, 116, 104, 105, 110]
  · subst h2
    rw [if_neg (by decide), if_neg (by decide), if_pos rfl]; exact named26_within s w hs hW
  by_cases h3 : nm = [98, 101, 102, 111, 114, 101]
  · subst h3
    rw [if_neg (by decide), if_neg (by decide), if_neg (by decide), if_pos rfl]; exact named26_before s w hs hW
  by_cases h4 : nm = [115, 105, 110, 99, 101]
  · subst h4
    rw [if_neg (by decide), if_neg (by decide), if_neg (by decide), if_neg (by decide), if_pos rfl]; exact named26_since s w hs hW
  by_cases h5 : nm = [116, 97, 103]
  · subst h5
    rw [if_neg (by decide), if_neg (by decide), if_neg (by decide), if_neg (by decide), if_neg (by decide), if_pos rfl]; exact named26_tag s w hs hW
  by_cases h6 : nm = [119, 111, 114, 100]
  · subst h6
    rw [if_neg (by decide), if_neg (by decide), if_neg (by decide), if_neg (by decide), if_neg (by decide), if_neg (by decide), if_pos rfl]; exact named26_word s w hs hW
  by_cases h7 : nm = [98, 101, 103, 105, 110, 115]
  · subst h7
    rw [if_neg (by decide), if_neg (by decide), if_neg (by decide), if_neg (by decide), if_neg (by decide), if_neg (by decide), if_neg (by decide), if_pos rfl]; exact named26_begins s w hs hW
  rw [if_neg h0, if_neg h1, if_neg h2, if_neg h3, if_neg h4, if_neg h5, if_neg h6, if_neg h7]
  exact named26_none nm s w hs hW (by simpa using h0) (by simpa using h1) (by simpa using h2) (by simpa using h3) (by simpa using h4) (by simpa using h5) (by simpa using h6) (by simpa using h7)
end Go.Proofs.YtjjlmkleidbmhaaGreatDoor
end
section
namespace Go.Proofs.YtjjlmkleidbmhaaGreatDoor
open Go.ChangeShapes Go.WideShapes Go.ChangeAt Go.Deep
open Go.RowKit Go.Nst
set_option maxRecDepth 100000
set_option linter.unusedVariables false
set_option linter.unusedSimpArgs false

theorem ix26_none (t : List UInt8) (c : UInt8) (h : c ∉ t) : Lib.index t [c] = -1 := by
  induction t with
  | nil => simp [Lib.index]
  | cons d t ih =>
    simp only [List.mem_cons, not_or] at h
    unfold Lib.index
    have hp : List.isPrefixOf [c] (d :: t) = false := by
      simp [List.isPrefixOf]
      exact h.1
    rw [hp, ih h.2]
    simp
theorem ix26_one (n t : List UInt8) (c : UInt8) (h : c ∉ n) : Lib.index (n ++ c :: t) [c] = n.length := by
  induction n with
  | nil => simp [Lib.index]
  | cons d n ih =>
    simp only [List.mem_cons, not_or] at h
    rw [List.cons_append]
    unfold Lib.index
    have hp : List.isPrefixOf [c] (d :: (n ++ c :: t)) = false := by
      simp [List.isPrefixOf]
      exact h.1
    rw [hp, ih h.2]
    simp
theorem cut26 (t : List UInt8) : (∃ a r, t = a ++ 58 :: r ∧ 58 ∉ a ∧ Lib.cut t [58] = (a, r, true)) ∨ (58 ∉ t ∧ Lib.cut t [58] = (t, [], false)) := by
  by_cases h : (58 : UInt8) ∈ t
  · obtain ⟨a, r, e, hn⟩ := List.eq_append_cons_of_mem h
    refine .inl ⟨a, r, e, hn, ?_⟩
    rw [e]
    unfold Lib.cut
    rw [ix26_one a r 58 hn, if_pos (by omega)]
    simp
  · refine .inr ⟨h, ?_⟩
    unfold Lib.cut
    rw [ix26_none t 58 h, if_neg (by omega)]
/-- the code's term -/
def tmC (s : List UInt8) : Option Qy :=
  if (Lib.cut s [58]).2.2 = true then (if (nmC (Lib.cut s [58]).1 (Lib.cut s [58]).2.1).2 = true then chkQ (nmC (Lib.cut s [58]).1 (Lib.cut s [58]).2.1).1 else none)
  else if s = tAll then some ⟨1, 0, [], []⟩ else if s = tNon then some ⟨2, 0, [], []⟩ else if s = tUnr then some ⟨9, 0, [], []⟩ else if s = tSta then some ⟨10, 0, [], []⟩
  else chkQ ⟨11, 0, foldT s, []⟩
/-- a beginning that ends at the first colon -/
theorem stp_no {p a r : List UInt8} (hp : (58 : UInt8) ∉ p) (ha : (58 : UInt8) ∉ a) (h : a ≠ p) : stp (p ++ [58]) (a ++ 58 :: r) = none := by
  unfold stp
  rw [if_neg]
  intro hh
  rw [List.isPrefixOf_iff_prefix] at hh
  obtain ⟨t, ht⟩ := hh
  apply h
  rw [List.append_assoc, List.singleton_append] at ht
  have h1 : Lib.index (p ++ 58 :: t) [58] = p.length := ix26_one p t 58 hp
  have h2 : Lib.index (a ++ 58 :: r) [58] = a.length := ix26_one a r 58 ha
  rw [ht, h2] at h1
  have hl : a.length = p.length := by omega
  exact ((List.append_inj ht hl.symm).1).symm
theorem stp_none {p s : List UInt8} (hs : (58 : UInt8) ∉ s) : stp (p ++ [58]) s = none := by
  unfold stp
  rw [if_neg]
  intro hh
  rw [List.isPrefixOf_iff_prefix] at hh
  exact hs (hh.subset (by simp))
theorem chk_num {o m n : Int} (ho : o = 6 ∨ o = 7 ∨ o = 15) (h : m = n ∨ (m < 0 ∧ n < 0)) : chkQ ⟨o, m, [], []⟩ = chkQ ⟨o, n, [], []⟩ := by
  rcases h with rfl | ⟨h1, h2⟩
  · rfl
  · have f : ∀ z : Int, z < 0 → chkQ ⟨o, z, [], []⟩ = none := fun z hz => by
      unfold chkQ
      rw [okQ_leaf, if_neg]
      unfold oneQ
      have hz2 : ¬ 0 ≤ z := by omega
      have hz3 : ¬ 1 ≤ z := by omega
      rcases ho with rfl | rfl | rfl <;> simp [numQ, hz2, hz3]
    rw [f m h1, f n h2]
theorem chk_colon {s : List UInt8} (h : (58 : UInt8) ∈ s) : chkQ ⟨11, 0, foldT s, []⟩ = none := by
  unfold chkQ
  rw [okQ_leaf, if_neg]
  unfold oneQ
  simp [txtQ, word_colon h]
theorem tm_colon {a r : List UInt8} (ha : (58 : UInt8) ∉ a) : termD (a ++ 58 :: r) = if (nmC a r).2 = true then chkQ (nmC a r).1 else none := by
  have hm : (58 : UInt8) ∈ a ++ 58 :: r := by simp
  have n1 : a ++ 58 :: r ≠ tAll := fun e => by rw [e] at hm; revert hm; decide
  have n2 : a ++ 58 :: r ≠ tNon := fun e => by rw [e] at hm; revert hm; decide
  have n3 : a ++ 58 :: r ≠ tUnr := fun e => by rw [e] at hm; revert hm; decide
  have n4 : a ++ 58 :: r ≠ tSta := fun e => by rw [e] at hm; revert hm; decide
  by_cases h0 : a = [102, 101, 101, 100]
  · subst h0
    have e : nmC [102, 101, 101, 100] r = (⟨6, numC r, [], []⟩, true) := rfl
    have := term_fee r
    simp only [pFee, List.cons_append, List.nil_append] at this ⊢
    rw [this, e]
    simp only [if_true]
    exact (chk_num (by decide) (num_same r)).symm
  by_cases h1 : a = [102, 111, 108, 100, 101, 114]
  · subst h1
    have e : nmC [102, 111, 108, 100, 101, 114] r = (⟨7, numC r, [], []⟩, true) := rfl
    have := term_fol r
    simp only [pFol, List.cons_append, List.nil_append] at this ⊢
    rw [this, e]
    simp only [if_true]
    exact (chk_num (by decide) (num_same r)).symm
  by_cases h2 : a = [119, 105, 116, 104, 105, 110]
  · subst h2
    have e : nmC [119, 105, 116, 104, 105, 110] r = (⟨15, numC r, [], []⟩, true) := rfl
    have := term_wit r
    simp only [pWit, List.cons_append, List.nil_append] at this ⊢
    rw [this, e]
    simp only [if_true]
    exact (chk_num (by decide) (num_same r)).symm
  by_cases h3 : a = [98, 101, 102, 111, 114, 101]
  · subst h3
    have e : nmC [98, 101, 102, 111, 114, 101] r = (⟨13, (momT r).getD 0, [], []⟩, (momT r).isSome) := rfl
    have := term_bef r
    simp only [pBef, List.cons_append, List.nil_append] at this ⊢
    rw [this, e]
    cases momT r <;> rfl
  by_cases h4 : a = [115, 105, 110, 99, 101]
  · subst h4
    have e : nmC [115, 105, 110, 99, 101] r = (⟨14, (momT r).getD 0, [], []⟩, (momT r).isSome) := rfl
    have := term_sin r
    simp only [pSin, List.cons_append, List.nil_append] at this ⊢
    rw [this, e]
    cases momT r <;> rfl
  by_cases h5 : a = [116, 97, 103]
  · subst h5
    have e : nmC [116, 97, 103] r = (⟨8, 0, foldT r, []⟩, true) := rfl
    have := term_tag r
    simp only [pTag, List.cons_append, List.nil_append] at this ⊢
    rw [this, e]
    simp only [if_true]
  by_cases h6 : a = [119, 111, 114, 100]
  · subst h6
    have e : nmC [119, 111, 114, 100] r = (⟨11, 0, foldT r, []⟩, true) := rfl
    have := term_wor r
    simp only [pWor, List.cons_append, List.nil_append] at this ⊢
    rw [this, e]
    simp only [if_true]
  by_cases h7 : a = [98, 101, 103, 105, 110, 115]
  · subst h7
    have e : nmC [98, 101, 103, 105, 110, 115] r = (⟨12, 0, foldT r, []⟩, true) := rfl
    have := term_beg r
    simp only [pBeg, List.cons_append, List.nil_append] at this ⊢
    rw [this, e]
    simp only [if_true]
  have e : nmC a r = (⟨0, 0, [], []⟩, false) := by
    unfold nmC
    rw [if_neg h0, if_neg h1, if_neg h2, if_neg h3, if_neg h4, if_neg h5, if_neg h6, if_neg h7]
  rw [e, if_neg (by decide)]
  unfold termD
  rw [if_neg n1, if_neg n2, if_neg n3, if_neg n4]
  rw [show stp pFee (a ++ 58 :: r) = none from stp_no (p := [102, 101, 101, 100]) (by decide) ha h0, show stp pFol (a ++ 58 :: r) = none from stp_no (p := [102, 111, 108, 100, 101, 114]) (by decide) ha h1, show stp pWit (a ++ 58 :: r) = none from stp_no (p := [119, 105, 116, 104, 105, 110]) (by decide) ha h2, show stp pBef (a ++ 58 :: r) = none from stp_no (p := [98, 101, 102, 111, 114, 101]) (by decide) ha h3, show stp pSin (a ++ 58 :: r) = none from stp_no (p := [115, 105, 110, 99, 101]) (by decide) ha h4, show stp pTag (a ++ 58 :: r) = none from stp_no (p := [116, 97, 103]) (by decide) ha h5, show stp pWor (a ++ 58 :: r) = none from stp_no (p := [119, 111, 114, 100]) (by decide) ha h6, show stp pBeg (a ++ 58 :: r) = none from stp_no (p := [98, 101, 103, 105, 110, 115]) (by decide) ha h7]
  exact chk_colon hm
theorem tm_same (s : List UInt8) : tmC s = termD s := by
  unfold tmC
  rcases cut26 s with ⟨a, r, rfl, ha, hc⟩ | ⟨hn, hc⟩
  · rw [hc, if_pos rfl, tm_colon ha]
  · rw [hc, if_neg (by simp)]
    unfold termD
    rw [show stp pFee s = none from stp_none (p := [102, 101, 101, 100]) hn, show stp pFol s = none from stp_none (p := [102, 111, 108, 100, 101, 114]) hn, show stp pWit s = none from stp_none (p := [119, 105, 116, 104, 105, 110]) hn, show stp pBef s = none from stp_none (p := [98, 101, 102, 111, 114, 101]) hn, show stp pSin s = none from stp_none (p := [115, 105, 110, 99, 101]) hn, show stp pTag s = none from stp_none (p := [116, 97, 103]) hn, show stp pWor s = none from stp_none (p := [119, 111, 114, 100]) hn, show stp pBeg s = none from stp_none (p := [98, 101, 103, 105, 110, 115]) hn]
end Go.Proofs.YtjjlmkleidbmhaaGreatDoor
end
