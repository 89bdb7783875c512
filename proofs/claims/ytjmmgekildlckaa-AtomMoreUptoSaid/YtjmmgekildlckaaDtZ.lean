/-
  Dates: zone, told, Web (printed by gen_dtz.py).
-/
import Derived.Test.YtjmmgekildlckaaDtX
import Derived.Test.YtjmmgekildlckaaDtY
namespace Go.Proofs.Ytjmmgekildlckaa
open Go.RowKit Go.Nst
set_option maxRecDepth 100000
set_option linter.unusedVariables false
set_option linter.unusedSimpArgs false

def tOut (o : Option Int) : Value := .tuple #[.int .i64 (o.getD 0), .int .i64 (if o.isSome = true then 0 else 40)]
theorem off_bd (c : Bool) (r : RD) : -400000 ≤ (rdOff c r).1 ∧ (rdOff c r).1 ≤ 400000 := by
  have h1 := dig2_bd (rdSign [43, 45] r).2
  have h2 := dig2_bd (rdColon c (rdDig 2 (rdSign [43, 45] r).2).2)
  unfold rdOff offN
  simp only
  split <;> omega
theorem zone_bd (r : RD) : -400000 ≤ (rdZone r).1 ∧ (rdZone r).1 ≤ 400000 := by
  unfold rdZone
  split
  · simp
  · exact off_bd true r
theorem len_off (c : Bool) (r : RD) : (rdOff c r).2.l.length ≤ r.l.length := by
  have h1 := len_sign [43, 45] r
  have h2 := len_dig 2 (rdSign [43, 45] r).2
  have h3 : (rdColon c (rdDig 2 (rdSign [43, 45] r).2).2).l.length ≤ (rdDig 2 (rdSign [43, 45] r).2).2.l.length := by
    unfold rdColon
    split
    · exact len_sign [58] _
    · exact Nat.le_refl _
  have h4 := len_dig 2 (rdColon c (rdDig 2 (rdSign [43, 45] r).2).2)
  unfold rdOff
  simp only
  omega
set_option maxHeartbeats 4000000 in
theorem rd_zone (g : Nat) (r : RD) (w : World) (hR : Rdd w g r) (hl : r.l.length ≤ 100000) :
    Calls Try.prog 51 #[.pointer (some ⟨g, 0, none⟩)] w (RetD w g (.int .i64 (rdZone r).1) (rdZone r).2) := by
  have HO := Lib.hid (rd_offset g true r w hR hl)
  obtain ⟨l, b⟩ := r
  simp only at hl
  have hg := Blk.lt hR
  have c0 := Blk.cell hR 0
  have c1 := Blk.cell hR 1
  simp at c0 c1
  have hfz := Blk.frozen hR
  have HR := Lib.hid hR
  clear hR
  by_cases h1 : l = [90]
  · subst h1
    have HV : Hid (rdZone ⟨[90], b⟩ = (0, ⟨[], b⟩)) := rfl
    go_enter Try.func51, Try.ntmps51
    go_wp2_with fail
    go_ret
    rw [HV.out]
    exact ⟨rfl, by have := Blk.set_ HR.out 0 (.string ⟨#[]⟩); simpa [Rdd] using this, only_setCell (World.grownBy.refl _ _) (.inl rfl) _⟩
  by_cases h2 : l = [122]
  · subst h2
    have HV : Hid (rdZone ⟨[122], b⟩ = (0, ⟨[], b⟩)) := rfl
    go_enter Try.func51, Try.ntmps51
    go_wp2_with fail
    go_ret
    rw [HV.out]
    exact ⟨rfl, by have := Blk.set_ HR.out 0 (.string ⟨#[]⟩); simpa [Rdd] using this, only_setCell (World.grownBy.refl _ _) (.inl rfl) _⟩
  have HV : Hid (rdZone ⟨l, b⟩ = rdOff true ⟨l, b⟩) := Lib.hid (by unfold rdZone; rw [if_neg (by simp [h1, h2])])
  have e1 : (l == [90]) = false := by simpa using h1
  have e2 : (l == [122]) = false := by simpa using h2
  generalize rdOff true ⟨l, b⟩ = q at *
  go_enter Try.func51, Try.ntmps51
  go_wp2_with fail
  (with_reducible refine (HO.out).mono ?_)
  rintro e w1 ⟨rfl, hR1, hg1⟩
  go_wp2_with fail
  go_ret
  rw [HV.out]
  exact ⟨rfl, hR1, hg1⟩
theorem mayM_eq (n : Int) : (decide (-62135596800 ≤ n) && decide (n ≤ 253402300799)) = mayM n := rfl
set_option maxHeartbeats 4000000 in
theorem rd_told (g : Nat) (r : RD) (x : Dt) (z : Int) (w : World) (hR : Rdd w g r) (hz0 : -1000000 ≤ z) (hz1 : z ≤ 1000000) (hm0 : -9223372036854775808 ≤ x.m) (hm1 : x.m ≤ 9223372036854775807) :
    Calls Try.prog 50 #[.pointer (some ⟨g, 0, none⟩), Dt.val x, .int .i64 z] w (fun e w' => e = .returned (tOut (toldC r x z)) ∧ Below w.heap.size w w') := by
  obtain ⟨y, m, d, h_, mi, s⟩ := x
  obtain ⟨l, b⟩ := r
  simp only at hm0 hm1
  simp only [Dt.val, Dt.cells]
  have B0 := bel_alloc (Below.refl w.heap.size w) (.cells #[.int .i64 y, .int .i64 m, .int .i64 d, .int .i64 h_, .int .i64 mi, .int .i64 s] 98)
  have hR0 := hR.below B0
  have hv0 := Blk.new w 98 #[.int .i64 y, .int .i64 m, .int .i64 d, .int .i64 h_, .int .i64 mi, .int .i64 s]
  have HT : Hid (toldC ⟨l, b⟩ ⟨y, m, d, h_, mi, s⟩ z = if !b && l.isEmpty then toldR ⟨y, m, d, h_, mi, s⟩ z else none) := rfl
  cases hok : Dt.ok ⟨y, m, d, h_, mi, s⟩ with
  | false =>
    have HTN : Hid (toldC ⟨l, b⟩ ⟨y, m, d, h_, mi, s⟩ z = none) := Lib.hid (by rw [HT.out, told_no hok]; split <;> rfl)
    have HM := Lib.hid (fun W => moment_no y m d h_ mi s W hm0 hm1 hok)
    clear hok HT
    by_cases hl0 : l = []
    · subst hl0
      cases b with
      | true =>
        go_enter Try.func50, Try.ntmps50
        go_wp2_with fail
        (with_reducible refine (HM.out _).mono ?_)
        rintro e w1 ⟨rfl, hb1⟩
        have B1 := bel_step B0 hb1
        have hR1 := hR0.below hb1
        have c0 := Blk.cell hR1 0
        have c1 := Blk.cell hR1 1
        simp at c0 c1
        clear hb1 B0 hR0 hR hv0
        go_wp2_with fail
        go_ret2
        rw [HTN.out]
        exact ⟨rfl, B1⟩
      | false =>
        go_enter Try.func50, Try.ntmps50
        go_wp2_with fail
        (with_reducible refine (HM.out _).mono ?_)
        rintro e w1 ⟨rfl, hb1⟩
        have B1 := bel_step B0 hb1
        have hR1 := hR0.below hb1
        have c0 := Blk.cell hR1 0
        have c1 := Blk.cell hR1 1
        simp at c0 c1
        clear hb1 B0 hR0 hR hv0
        go_wp2_with fail
        go_ret2
        rw [HTN.out]
        exact ⟨rfl, B1⟩
    · have e1 : (l == []) = false := by simpa using hl0
      have e2 : l.isEmpty = false := by cases l with | nil => exact absurd rfl hl0 | cons a t => rfl
      cases b with
      | true =>
        go_enter Try.func50, Try.ntmps50
        go_wp2_with fail
        (with_reducible refine (HM.out _).mono ?_)
        rintro e w1 ⟨rfl, hb1⟩
        have B1 := bel_step B0 hb1
        have hR1 := hR0.below hb1
        have c0 := Blk.cell hR1 0
        have c1 := Blk.cell hR1 1
        simp at c0 c1
        clear hb1 B0 hR0 hR hv0
        go_wp2_with fail
        go_ret2
        rw [HTN.out]
        exact ⟨rfl, B1⟩
      | false =>
        go_enter Try.func50, Try.ntmps50
        go_wp2_with fail
        (with_reducible refine (HM.out _).mono ?_)
        rintro e w1 ⟨rfl, hb1⟩
        have B1 := bel_step B0 hb1
        have hR1 := hR0.below hb1
        have c0 := Blk.cell hR1 0
        have c1 := Blk.cell hR1 1
        simp at c0 c1
        clear hb1 B0 hR0 hR hv0
        go_wp2_with fail
        go_ret2
        rw [HTN.out]
        exact ⟨rfl, B1⟩
  | true =>
    have HM := Lib.hid (fun W => moment_yes y m d h_ mi s W hok)
    have hmb := mom_bounds hok
    rw [mayM_iff] at hmb
    have HTR : Hid (toldR ⟨y, m, d, h_, mi, s⟩ z = if mayM (Dt.mom ⟨y, m, d, h_, mi, s⟩ - z) = true then some (Dt.mom ⟨y, m, d, h_, mi, s⟩ - z) else none) := Lib.hid (by unfold toldR; rw [hok, Bool.true_and])
    generalize Dt.mom ⟨y, m, d, h_, mi, s⟩ = M at *
    have k1 : IntKind.i64.wrap (M - z) = M - z := IntWalk.i64_in _ (by omega)
    have HWI := Lib.hid (fun W => within_any (M - z) (-62135596800) 253402300799 W)
    simp only [mayM_eq] at HWI
    clear hok
    by_cases hl0 : l = []
    · subst hl0
      cases b with
      | true =>
        have HTN : Hid (toldC ⟨[], true⟩ ⟨y, m, d, h_, mi, s⟩ z = none) := rfl
        go_enter Try.func50, Try.ntmps50
        go_wp2_with fail
        (with_reducible refine (HM.out _).mono ?_)
        rintro e w1 ⟨rfl, hb1⟩
        have B1 := bel_step B0 hb1
        have hR1 := hR0.below hb1
        have c0 := Blk.cell hR1 0
        have c1 := Blk.cell hR1 1
        simp at c0 c1
        clear hb1 B0 hR0 hR hv0
        go_wp2_with fail
        go_ret2
        rw [HTN.out]
        exact ⟨rfl, B1⟩
      | false =>
        have HTS : Hid (toldC ⟨[], false⟩ ⟨y, m, d, h_, mi, s⟩ z = if mayM (M - z) = true then some (M - z) else none) := Lib.hid (by rw [HT.out, HTR.out]; rfl)
        cases hmm : mayM (M - z) with
        | false =>
          rw [hmm] at HWI HTS
          have HTN : Hid (toldC ⟨[], false⟩ ⟨y, m, d, h_, mi, s⟩ z = none) := Lib.hid HTS.out
          clear hmm
          go_enter Try.func50, Try.ntmps50
          go_wp2_with fail
          (with_reducible refine (HM.out _).mono ?_)
          rintro e w1 ⟨rfl, hb1⟩
          have B1 := bel_step B0 hb1
          have hR1 := hR0.below hb1
          have c0 := Blk.cell hR1 0
          have c1 := Blk.cell hR1 1
          simp at c0 c1
          clear hb1 B0 hR0 hR hv0
          go_wp2_with fail
          (with_reducible refine (HWI.out _).mono ?_)
          rintro e w2 ⟨rfl, rfl⟩
          go_wp2_with fail
          go_ret2
          rw [HTN.out]
          exact ⟨rfl, B1⟩
        | true =>
          rw [hmm] at HWI HTS
          have HTN : Hid (toldC ⟨[], false⟩ ⟨y, m, d, h_, mi, s⟩ z = some (M - z)) := Lib.hid HTS.out
          clear hmm
          go_enter Try.func50, Try.ntmps50
          go_wp2_with fail
          (with_reducible refine (HM.out _).mono ?_)
          rintro e w1 ⟨rfl, hb1⟩
          have B1 := bel_step B0 hb1
          have hR1 := hR0.below hb1
          have c0 := Blk.cell hR1 0
          have c1 := Blk.cell hR1 1
          simp at c0 c1
          clear hb1 B0 hR0 hR hv0
          go_wp2_with fail
          (with_reducible refine (HWI.out _).mono ?_)
          rintro e w2 ⟨rfl, rfl⟩
          go_wp2_with fail
          go_ret2
          rw [HTN.out]
          exact ⟨rfl, B1⟩
    · have e1 : (l == []) = false := by simpa using hl0
      have e2 : l.isEmpty = false := by cases l with | nil => exact absurd rfl hl0 | cons a t => rfl
      have HTN : Hid (toldC ⟨l, b⟩ ⟨y, m, d, h_, mi, s⟩ z = none) := Lib.hid (by rw [HT.out, e2, Bool.and_false]; rfl)
      cases b with
      | true =>
        go_enter Try.func50, Try.ntmps50
        go_wp2_with fail
        (with_reducible refine (HM.out _).mono ?_)
        rintro e w1 ⟨rfl, hb1⟩
        have B1 := bel_step B0 hb1
        have hR1 := hR0.below hb1
        have c0 := Blk.cell hR1 0
        have c1 := Blk.cell hR1 1
        simp at c0 c1
        clear hb1 B0 hR0 hR hv0
        go_wp2_with fail
        go_ret2
        rw [HTN.out]
        exact ⟨rfl, B1⟩
      | false =>
        go_enter Try.func50, Try.ntmps50
        go_wp2_with fail
        (with_reducible refine (HM.out _).mono ?_)
        rintro e w1 ⟨rfl, hb1⟩
        have B1 := bel_step B0 hb1
        have hR1 := hR0.below hb1
        have c0 := Blk.cell hR1 0
        have c1 := Blk.cell hR1 1
        simp at c0 c1
        clear hb1 B0 hR0 hR hv0
        go_wp2_with fail
        go_ret2
        rw [HTN.out]
        exact ⟨rfl, B1⟩
/-- the world while a date of the web is read -/
structure DS (w W : World) (gr gd : Nat) (r : RD) (cs : Array Value) : Prop where
  rr : Rdd W gr r
  dd : Blk W gd 98 cs
  bel : Below w.heap.size w W
  h1 : w.heap.size ≤ gr
  h2 : w.heap.size ≤ gd
  ne : gr ≠ gd
theorem DS.drew {w W : World} {gr gd : Nat} {r : RD} {cs : Array Value} (h : DS w W gr gd r cs) : DS w W.drew gr gd r cs := ⟨h.rr, h.dd, h.bel.drew, h.h1, h.h2, h.ne⟩
theorem DS.step {w W W' : World} {gr gd : Nat} {r r' : RD} {cs : Array Value} (h : DS w W gr gd r cs) (h1 : Rdd W' gr r') (h2 : W.grownBy W' (some gr)) : DS w W' gr gd r' cs :=
  ⟨h1, h.dd.grown h2 (by intro e; injection e with e; exact h.ne e.symm), below_only h.bel h2 h.h1 h.bel.size, h.h1, h.h2, h.ne⟩
theorem DS.store {w W : World} {gr gd : Nat} {r : RD} {cs : Array Value} (h : DS w W gr gd r cs) (i : Nat) (v : Value) : DS w (W.setCell ⟨gd, i, none⟩ v) gr gd r (cs.setIfInBounds i v) :=
  ⟨Blk.far h.rr h.ne v, h.dd.set_ i v, h.bel.setCell h.h2 v, h.h1, h.h2, h.ne⟩
set_option maxHeartbeats 8000000 in
theorem web_any (l : List UInt8) (w : World) (hl : l.length ≤ 100000) :
    Calls Try.prog 30 #[.string ⟨l.toArray⟩] w (fun e w' => e = .returned (tOut (webC l)) ∧ Below w.heap.size w w') := by
  have HW : Hid (webC l = toldC (rdZone (rdPoint (web6 l).2)).2 ⟨(web1 l).1, (web2 l).1, (web3 l).1, (web4 l).1, (web5 l).1, (web6 l).1⟩ (rdZone (rdPoint (web6 l).2)).1) := rfl
  generalize webC l = res at *
  unfold tOut
  obtain ⟨en, hen⟩ : ∃ en : Int, (if res.isSome = true then (0 : Int) else 40) = en := ⟨_, rfl⟩
  obtain ⟨nn, hnn⟩ : ∃ nn : Int, res.getD 0 = nn := ⟨_, rfl⟩
  rw [hen, hnn]
  have E1 : Hid (web1 l = rdDig 4 ⟨l, false⟩) := rfl
  have E2 : Hid (web2 l = rdDig 2 (rdSign [45] (web1 l).2).2) := rfl
  have E3 : Hid (web3 l = rdDig 2 (rdSign [45] (web2 l).2).2) := rfl
  have E4 : Hid (web4 l = rdDig 2 (rdSign [84, 116] (web3 l).2).2) := rfl
  have E5 : Hid (web5 l = rdDig 2 (rdSign [58] (web4 l).2).2) := rfl
  have E6 : Hid (web6 l = rdDig 2 (rdSign [58] (web5 l).2).2) := rfl
  have B0 := bel_alloc (bel_alloc (Below.refl w.heap.size w) (.cells #[.string ⟨l.toArray⟩, .bool false] 96)) (.cells #[.int .i64 0, .int .i64 0, .int .i64 0, .int .i64 0, .int .i64 0, .int .i64 0] 98)
  have hS : DS w ((w.alloc (.cells #[.string ⟨l.toArray⟩, .bool false] 96)).alloc (.cells #[.int .i64 0, .int .i64 0, .int .i64 0, .int .i64 0, .int .i64 0, .int .i64 0] 98)) w.heap.size (w.heap.size + 1) ⟨l, false⟩ #[.int .i64 0, .int .i64 0, .int .i64 0, .int .i64 0, .int .i64 0, .int .i64 0] := by
    refine ⟨(Blk.new w _ _).alloc _, ?_, B0, Nat.le_refl _, by omega, by omega⟩
    have := Blk.new (w.alloc (.cells #[.string ⟨l.toArray⟩, .bool false] 96)) 98 #[.int .i64 0, .int .i64 0, .int .i64 0, .int .i64 0, .int .i64 0, .int .i64 0]
    simpa using this
  have L0 : (⟨l, false⟩ : RD).l.length ≤ 100000 := hl
  have H1 := Lib.hid (fun W k => rd_digits4 w.heap.size ⟨l, false⟩ W k hl)
  have l1 := len_dig 4 ⟨l, false⟩
  have b1 := dig4_bd ⟨l, false⟩
  rw [← E1.out] at H1 l1 b1
  generalize web1 l = q1 at *
  obtain ⟨v1, r1⟩ := q1
  simp only at H1 l1 b1 E2 HW
  have K2 := Lib.hid (fun W k => rd_sign w.heap.size [45] r1 W k (by simp only at *; omega) (by simp))
  have m2 := len_sign [45] r1
  generalize rdSign [45] r1 = p2 at *
  obtain ⟨_, s2⟩ := p2
  simp only at K2 m2 E2
  have H2 := Lib.hid (fun W k => rd_digits2 w.heap.size s2 W k (by simp only at *; omega))
  have l2 := len_dig 2 s2
  have b2 := dig2_bd s2
  rw [← E2.out] at H2 l2 b2
  generalize web2 l = q2 at *
  obtain ⟨v2, r2⟩ := q2
  simp only at H2 l2 b2 E3 HW
  have K3 := Lib.hid (fun W k => rd_sign w.heap.size [45] r2 W k (by simp only at *; omega) (by simp))
  have m3 := len_sign [45] r2
  generalize rdSign [45] r2 = p3 at *
  obtain ⟨_, s3⟩ := p3
  simp only at K3 m3 E3
  have H3 := Lib.hid (fun W k => rd_digits2 w.heap.size s3 W k (by simp only at *; omega))
  have l3 := len_dig 2 s3
  have b3 := dig2_bd s3
  rw [← E3.out] at H3 l3 b3
  generalize web3 l = q3 at *
  obtain ⟨v3, r3⟩ := q3
  simp only at H3 l3 b3 E4 HW
  have K4 := Lib.hid (fun W k => rd_sign w.heap.size [84, 116] r3 W k (by simp only at *; omega) (by simp))
  have m4 := len_sign [84, 116] r3
  generalize rdSign [84, 116] r3 = p4 at *
  obtain ⟨_, s4⟩ := p4
  simp only at K4 m4 E4
  have H4 := Lib.hid (fun W k => rd_digits2 w.heap.size s4 W k (by simp only at *; omega))
  have l4 := len_dig 2 s4
  have b4 := dig2_bd s4
  rw [← E4.out] at H4 l4 b4
  generalize web4 l = q4 at *
  obtain ⟨v4, r4⟩ := q4
  simp only at H4 l4 b4 E5 HW
  have K5 := Lib.hid (fun W k => rd_sign w.heap.size [58] r4 W k (by simp only at *; omega) (by simp))
  have m5 := len_sign [58] r4
  generalize rdSign [58] r4 = p5 at *
  obtain ⟨_, s5⟩ := p5
  simp only at K5 m5 E5
  have H5 := Lib.hid (fun W k => rd_digits2 w.heap.size s5 W k (by simp only at *; omega))
  have l5 := len_dig 2 s5
  have b5 := dig2_bd s5
  rw [← E5.out] at H5 l5 b5
  generalize web5 l = q5 at *
  obtain ⟨v5, r5⟩ := q5
  simp only at H5 l5 b5 E6 HW
  have K6 := Lib.hid (fun W k => rd_sign w.heap.size [58] r5 W k (by simp only at *; omega) (by simp))
  have m6 := len_sign [58] r5
  generalize rdSign [58] r5 = p6 at *
  obtain ⟨_, s6⟩ := p6
  simp only at K6 m6 E6
  have H6 := Lib.hid (fun W k => rd_digits2 w.heap.size s6 W k (by simp only at *; omega))
  have l6 := len_dig 2 s6
  have b6 := dig2_bd s6
  rw [← E6.out] at H6 l6 b6
  generalize web6 l = q6 at *
  obtain ⟨v6, r6⟩ := q6
  simp only at H6 l6 b6 HW
  have H7 := Lib.hid (fun W k => rd_point w.heap.size r6 W k (by simp only at *; omega))
  have l7 := len_point r6
  generalize rdPoint r6 = r7 at *
  have H8 := Lib.hid (fun W k => rd_zone w.heap.size r7 W k (by simp only at *; omega))
  have b8 := zone_bd r7
  generalize rdZone r7 = q8 at *
  obtain ⟨z, r8⟩ := q8
  simp only at H8 b8 HW
  have H9 := Lib.hid (fun W k => rd_told w.heap.size r8 ⟨v1, v2, v3, v4, v5, v6⟩ z W k (by omega) (by omega) (by simp only; omega) (by simp only; omega))
  rw [← HW.out] at H9
  simp only [Dt.val, Dt.cells, tOut, hen, hnn] at H9
  clear hen hnn
  clear HW E1 E2 E3 E4 E5 E6 l1 l2 l3 l4 l5 l6 m2 m3 m4 m5 m6 b1 b2 b3 b4 b5 b6 b8 l7
  go_enter Try.func30, Try.ntmps30
  go_wp2_with fail
  obtain ⟨gd, hgd⟩ : ∃ gd, gd = w.heap.size + 1 := ⟨_, rfl⟩
  rw [← hgd] at hS
  simp only [← hgd]
  generalize (w.alloc (.cells #[.string ⟨l.toArray⟩, .bool false] 96)).alloc (.cells #[.int .i64 0, .int .i64 0, .int .i64 0, .int .i64 0, .int .i64 0, .int .i64 0] 98) = w0 at *
  clear hgd B0
  (with_reducible refine (H1.out _ hS.rr).mono ?_)
  rintro e y1 ⟨rfl, hR, hg⟩
  have hU1 := hS.step hR hg
  have f_ := hU1.dd.frozen 0
  have c_ := hU1.dd.cell 0
  simp at c_
  have hV1 := hU1.store 0 (.int .i64 v1)
  simp at hV1
  clear hR hg hS hU1
  go_wp2_with fail
  clear f_ c_
  (with_reducible refine (K2.out _ hV1.rr).mono ?_)
  rintro e x2 ⟨rfl, hR, hg⟩
  have hT2 := hV1.step hR hg
  clear hR hg hV1
  go_wp2_with fail
  (with_reducible refine (H2.out _ hT2.rr).mono ?_)
  rintro e y2 ⟨rfl, hR, hg⟩
  have hU2 := hT2.step hR hg
  have f_ := hU2.dd.frozen 1
  have c_ := hU2.dd.cell 1
  simp at c_
  have hV2 := hU2.store 1 (.int .i64 v2)
  simp at hV2
  clear hR hg hT2 hU2
  go_wp2_with fail
  clear f_ c_
  (with_reducible refine (K3.out _ hV2.rr).mono ?_)
  rintro e x3 ⟨rfl, hR, hg⟩
  have hT3 := hV2.step hR hg
  clear hR hg hV2
  go_wp2_with fail
  (with_reducible refine (H3.out _ hT3.rr).mono ?_)
  rintro e y3 ⟨rfl, hR, hg⟩
  have hU3 := hT3.step hR hg
  have f_ := hU3.dd.frozen 2
  have c_ := hU3.dd.cell 2
  simp at c_
  have hV3 := hU3.store 2 (.int .i64 v3)
  simp at hV3
  clear hR hg hT3 hU3
  go_wp2_with fail
  clear f_ c_
  (with_reducible refine (K4.out _ hV3.rr).mono ?_)
  rintro e x4 ⟨rfl, hR, hg⟩
  have hT4 := hV3.step hR hg
  clear hR hg hV3
  go_wp2_with fail
  (with_reducible refine (H4.out _ hT4.rr).mono ?_)
  rintro e y4 ⟨rfl, hR, hg⟩
  have hU4 := hT4.step hR hg
  have f_ := hU4.dd.frozen 3
  have c_ := hU4.dd.cell 3
  simp at c_
  have hV4 := hU4.store 3 (.int .i64 v4)
  simp at hV4
  clear hR hg hT4 hU4
  go_wp2_with fail
  clear f_ c_
  (with_reducible refine (K5.out _ hV4.rr).mono ?_)
  rintro e x5 ⟨rfl, hR, hg⟩
  have hT5 := hV4.step hR hg
  clear hR hg hV4
  go_wp2_with fail
  (with_reducible refine (H5.out _ hT5.rr).mono ?_)
  rintro e y5 ⟨rfl, hR, hg⟩
  have hU5 := hT5.step hR hg
  have f_ := hU5.dd.frozen 4
  have c_ := hU5.dd.cell 4
  simp at c_
  have hV5 := hU5.store 4 (.int .i64 v5)
  simp at hV5
  clear hR hg hT5 hU5
  go_wp2_with fail
  clear f_ c_
  (with_reducible refine (K6.out _ hV5.rr).mono ?_)
  rintro e x6 ⟨rfl, hR, hg⟩
  have hT6 := hV5.step hR hg
  clear hR hg hV5
  go_wp2_with fail
  (with_reducible refine (H6.out _ hT6.rr).mono ?_)
  rintro e y6 ⟨rfl, hR, hg⟩
  have hU6 := hT6.step hR hg
  have f_ := hU6.dd.frozen 5
  have c_ := hU6.dd.cell 5
  simp at c_
  have hV6 := hU6.store 5 (.int .i64 v6)
  simp at hV6
  clear hR hg hT6 hU6
  go_wp2_with fail
  clear f_ c_
  (with_reducible refine (H7.out _ hV6.rr).mono ?_)
  rintro e y7 ⟨rfl, hR, hg⟩
  have hS7 := hV6.step hR hg
  clear hR hg hV6
  go_wp2_with fail
  refine wp_region_seqD (Onl w.heap.size) (Onl.refl w.heap.size) Onl.trans (by kernel_rfl) [(0, true), (1, true), (2, true), (3, false), (4, false), (5, true), (6, true), (7, true), (8, true)] (by kernel_rfl) rfl (by kernel_rfl) ?_
  have hS8 := hS7.drew
  clear hS7
  generalize y7.drew = w7 at *
  have cd : ∀ W, Onl w.heap.size w7 W → Blk W gd 98 #[.int .i64 v1, .int .i64 v2, .int .i64 v3, .int .i64 v4, .int .i64 v5, .int .i64 v6] := fun W hW => hS8.dd.grown hW (by intro e; injection e with e; exact hS8.ne e.symm)
  have c0 := fun W (hW : Onl w.heap.size w7 W) => (show W.cell? ⟨gd, 0, none⟩ = some (.int .i64 v1) from ((cd W hW).cell 0).trans rfl)
  have c1 := fun W (hW : Onl w.heap.size w7 W) => (show W.cell? ⟨gd, 1, none⟩ = some (.int .i64 v2) from ((cd W hW).cell 1).trans rfl)
  have c2 := fun W (hW : Onl w.heap.size w7 W) => (show W.cell? ⟨gd, 2, none⟩ = some (.int .i64 v3) from ((cd W hW).cell 2).trans rfl)
  have c3 := fun W (hW : Onl w.heap.size w7 W) => (show W.cell? ⟨gd, 3, none⟩ = some (.int .i64 v4) from ((cd W hW).cell 3).trans rfl)
  have c4 := fun W (hW : Onl w.heap.size w7 W) => (show W.cell? ⟨gd, 4, none⟩ = some (.int .i64 v5) from ((cd W hW).cell 4).trans rfl)
  have c5 := fun W (hW : Onl w.heap.size w7 W) => (show W.cell? ⟨gd, 5, none⟩ = some (.int .i64 v6) from ((cd W hW).cell 5).trans rfl)
  iterate 3 (refine wpSeqR_take (o := ⟨_, _, _, _, _, _⟩) (v := ?_) rfl rfl ?_ ?_; rotate_left; (focus (intro W hW; go_simp; first | done | with_reducible rfl)); simp only [Act.put, List.setIfInBounds_toArray, List.set_cons_zero, List.set_cons_succ])
  clear c0 c1 c2 c3 c4 c5 cd
  refine wpSeqR_exec (o := ⟨_, _, _, _, _, _⟩) rfl rfl (fun K hK => ?_)
  go_simp
  (with_reducible refine (H8.out _ hS8.rr).mono ?_)
  rintro e w8 ⟨rfl, hR, hg⟩
  have hS9 := hS8.step hR hg
  go_wp2_with fail
  refine hK _ _ hg ?_
  clear hK K hR hg hS8
  refine wpSeqR_exec (o := ⟨_, _, _, _, _, _⟩) rfl rfl (fun K hK => ?_)
  go_simp
  (with_reducible refine (H9.out _ hS9.rr).mono ?_)
  rintro e w9 ⟨rfl, hb⟩
  have B9 := bel_step hS9.bel hb
  go_wp2_with fail
  refine hK _ _ (only_of_below hb _) ?_
  clear hK K
  iterate 4 (refine wpSeqR_take (o := ⟨_, _, _, _, _, _⟩) (v := ?_) rfl rfl ?_ ?_; rotate_left; (focus (intro W hW; go_simp; first | done | with_reducible rfl)); simp only [Act.put, List.setIfInBounds_toArray, List.set_cons_zero, List.set_cons_succ])
  refine wpSeqR_nil ?_
  go_wp2_with fail
  go_ret2
  exact ⟨rfl, B9⟩
end Go.Proofs.Ytjmmgekildlckaa