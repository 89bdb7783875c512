/-
  The four statements' walks.
-/
import Derived.Test.YtedliepfaibefaaGreatDoorOlW
namespace Go.Proofs.YtedliepfaibefaaGreatDoor
open Go.RowKit Go.Nst
set_option maxRecDepth 100000
set_option linter.unusedVariables false
set_option linter.unusedSimpArgs false

theorem olL_len {o : Ol} (h : o.ok = true) : (olL o).length ≤ 3000 := by
  have f := olF h
  have h1 := f.s
  have h2 := f.t
  unfold olL olT numsL textsL
  simp only [List.length_append, List.length_cons, List.length_nil]
  have a1 := selN_len (sN o.v o.k) 0 o.a
  have a2 := selN_len (sN o.v o.k) 1 o.b
  have a3 := selN_len (sN o.v o.k) 2 o.n
  have b1 := selT_len (sT o.v o.k) 0 o.s
  have b2 := selT_len (sT o.v o.k) 1 o.t
  have b3 := selT_len (sT o.v o.k) 2 ([] : List UInt8)
  simp only [List.length_nil] at b3
  omega
set_option maxHeartbeats 4000000 in
theorem oldThird_walk (k a b n : Int) (s t u : List UInt8) (w : World) (hs : s.length ≤ 9223372036854775807) (ht : t.length ≤ 9223372036854775807) (hu : u.length ≤ 9223372036854775807) (hN : Nms w) :
    Calls Tryz.prog 5 #[.agg (evV k a b n s t u)] w (RetTrue w) := by
  have HL := Lib.hid (fun W => large14_any k a b n s t u W hs ht hu)
  have HV := Lib.hid (fun W h => lives16_any W h)
  have B0 := bel_alloc (Below.refl w.heap.size w) (.cells (evV k a b n s t u) 45)
  have hv0 := Blk.new w 45 (evV k a b n s t u)
  cases hl : largeB s t u with
  | true =>
    rw [hl] at HL
    clear hl
    simp only [evV] at *
    go_enter Tryz.func5, Tryz.ntmps5
    go_wp2_with fail
    (with_reducible refine (HL.out _).mono ?_)
    rintro e w1 ⟨rfl, hb1⟩
    have B1 := bel_step B0 hb1
    have hN1 := hN.below B1
    go_wp2_with fail
    (with_reducible refine (HV.out _ hN1).mono ?_)
    rintro e w2 ⟨rfl, hb2⟩
    go_wp2_with fail
    go_ret
    exact ⟨rfl, bel_step B1 hb2⟩
  | false =>
    rw [hl] at HL
    obtain ⟨h1, h2, h3⟩ := largeB_no hl
    clear hl
    have HC := Lib.hid (fun W => refCheck_any k a b n s t u W (by omega) (by omega) (by omega))
    cases hok : evOK k a b n s t u with
    | false =>
      rw [hok] at HC
      clear hok
      simp only [evV] at *
      go_enter Tryz.func5, Tryz.ntmps5
      go_wp2_with fail
      (with_reducible refine (HL.out _).mono ?_)
      rintro e w1 ⟨rfl, hb1⟩
      have hv1 := hv0.below hb1 hv0.lt
      have v0 := hv1.cell 0
      have v1 := hv1.cell 1
      have v2 := hv1.cell 2
      have v3 := hv1.cell 3
      have v4 := hv1.cell 4
      have v5 := hv1.cell 5
      have v6 := hv1.cell 6
      try simp only [evV] at v0 v1 v2 v3 v4 v5 v6
      simp at v0 v1 v2 v3 v4 v5 v6
      have B1 := bel_step B0 hb1
      clear hb1
      go_wp2_with fail
      (with_reducible refine (HC.out _).mono ?_)
      rintro e w2 ⟨rfl, hb2⟩
      have B2 := bel_step B1 hb2
      have hN2 := hN.below B2
      clear hb2
      go_wp2_with fail
      (with_reducible refine (HV.out _ hN2).mono ?_)
      rintro e w3 ⟨rfl, hb3⟩
      go_wp2_with fail
      go_ret
      exact ⟨rfl, bel_step B2 hb3⟩
    | true =>
      rw [hok] at HC
      have HP := Lib.hid (fun W => refCode_any ⟨k, a, b, n, s, t, u⟩ W hok)
      have hge := get_code (e := ⟨k, a, b, n, s, t, u⟩) hok
      have hcl := codeL_len (e := ⟨k, a, b, n, s, t, u⟩) hok
      have HM := Lib.hid (fun A B m m2 c d W h1 h2 => same14_any [⟨k, a, b, n, s, t, u⟩] (by simp) A B m m2 c d W h1 h2)
      clear hok
      simp only [evV] at *
      generalize codeL ⟨k, a, b, n, s, t, u⟩ = l at *
      have HG := Lib.hid (fun A m c W (h : Bs W A m l) j => events_any A m c l W (by rw [← h.len]; omega) h j)
      unfold eventsL at HG
      rw [hge] at HG
      simp only at HG
      clear hge
      go_enter Tryz.func5, Tryz.ntmps5
      go_wp2_with fail
      (with_reducible refine (HL.out _).mono ?_)
      rintro e w1 ⟨rfl, hb1⟩
      have hv1 := hv0.below hb1 hv0.lt
      have v0 := hv1.cell 0
      have v1 := hv1.cell 1
      have v2 := hv1.cell 2
      have v3 := hv1.cell 3
      have v4 := hv1.cell 4
      have v5 := hv1.cell 5
      have v6 := hv1.cell 6
      try simp only [evV] at v0 v1 v2 v3 v4 v5 v6
      simp at v0 v1 v2 v3 v4 v5 v6
      have B1 := bel_step B0 hb1
      clear hb1
      go_wp2_with fail
      (with_reducible refine (HC.out _).mono ?_)
      rintro e w2 ⟨rfl, hb2⟩
      have hv2 := hv1.below hb2 hv1.lt
      have y0 := hv2.cell 0
      have y1 := hv2.cell 1
      have y2 := hv2.cell 2
      have y3 := hv2.cell 3
      have y4 := hv2.cell 4
      have y5 := hv2.cell 5
      have y6 := hv2.cell 6
      try simp only [evV] at y0 y1 y2 y3 y4 y5 y6
      simp at y0 y1 y2 y3 y4 y5 y6
      have B2 := bel_step B1 hb2
      clear hb2 hv1 B1 v0 v1 v2 v3 v4 v5 v6
      go_wp2_with fail
      (with_reducible refine (HP.out _).mono ?_)
      rintro e w3 ⟨A3, n3, c3, rfl, ho3, hb3⟩
      have hv3 := hv2.below hb3 hv2.lt
      have hq3 := ho3.bs
      have B3 := bel_step B2 hb3
      have hN3 := hN.below B3
      clear hb3 hv2 B2 y0 y1 y2 y3 y4 y5 y6 ho3
      go_wp2_with fail
      (with_reducible refine (HG.out _ _ _ _ hq3 hN3).mono ?_)
      rintro e w4 ⟨A4, c4, he, ho4, hb4⟩
      obtain rfl : e = .returned (.tuple #[.slice A4 1 c4, .int .i64 0]) := he
      have hv4 := hv3.below hb4 hv3.lt
      have hR4 : Rw w4 A4 1 (evsC [⟨k, a, b, n, s, t, u⟩]) := Rw.of_own ho4
      have B4 := bel_step B3 hb4
      have hN4 := hN.below B4
      clear hb4 hv3 B3 hN3 hq3 ho4
      go_wp2_with fail
      (with_reducible refine (HV.out _ hN4).mono ?_)
      rintro e w5 ⟨rfl, hb5⟩
      have hv5 := hv4.below hb5 hv4.lt
      have hR5 := hR4.below hb5
      have B5 := bel_step B4 hb5
      have v0 := hv5.cell 0
      have v1 := hv5.cell 1
      have v2 := hv5.cell 2
      have v3 := hv5.cell 3
      have v4 := hv5.cell 4
      have v5 := hv5.cell 5
      have v6 := hv5.cell 6
      try simp only [evV] at v0 v1 v2 v3 v4 v5 v6
      simp at v0 v1 v2 v3 v4 v5 v6
      have E5 := bel_alloc (Below.refl w5.heap.size w5) (.cells #[.int .i64 k, .int .i64 a, .int .i64 b, .int .i64 n, .string ⟨s.toArray⟩, .string ⟨t.toArray⟩, .string ⟨u.toArray⟩] 45)
      have hR6 := hR5.below E5
      have hL6 : Rw (w5.alloc (.cells #[.int .i64 k, .int .i64 a, .int .i64 b, .int .i64 n, .string ⟨s.toArray⟩, .string ⟨t.toArray⟩, .string ⟨u.toArray⟩] 45)) (some ⟨w5.heap.size, 0, none⟩) 1 (evsC [⟨k, a, b, n, s, t, u⟩]) := by
        refine .inr ⟨_, rfl, by simp, fun j x hx => ?_⟩
        rw [(Blk.new w5 45 #[.int .i64 k, .int .i64 a, .int .i64 b, .int .i64 n, .string ⟨s.toArray⟩, .string ⟨t.toArray⟩, .string ⟨u.toArray⟩]).cell j]
        simpa [evsC, evC] using hx
      have B6 := bel_step B5 E5
      clear hb5 hv4 hR4 hR5 B4 hN4
      go_wp2_with fail
      (with_reducible refine (HM.out _ _ 1 1 _ _ _ rfl rfl hR6 hL6).mono ?_)
      rintro e w7 ⟨rfl, hb7⟩
      go_wp2_with fail
      go_ret
      exact ⟨rfl, bel_step B6 hb7⟩
set_option maxHeartbeats 4000000 in
theorem oldGets_walk (A : Option Addr) (m c : Nat) (l : List UInt8) (w : World) (hB : Bs w A m l) (hnc : m ≤ c) (hn : m ≤ 9223372036854775807) (hN : Nms w) :
    Calls Tryz.prog 3 #[.slice A m c] w (RetTrue w) := by
  have HV := Lib.hid (fun W h => lives16_any W h)
  by_cases hm : 3000 < m
  · have d1 : decide ((3000 : Int) < (m : Int)) = true := by simp; omega
    go_enter Tryz.func3, Tryz.ntmps3
    go_wp2_with fail
    (with_reducible refine (HV.out _ hN).mono ?_)
    rintro e w1 ⟨rfl, hb1⟩
    go_wp2_with fail
    go_ret
    exact ⟨rfl, hb1⟩
  · have d1 : decide ((3000 : Int) < (m : Int)) = false := by simp; omega
    have H1 := Lib.hid (fun W (h : Bs W A m l) k => oldGet_any A m c l W (by omega) h k)
    have H2 := Lib.hid (fun W (h : Bs W A m l) => refGet16_any A m c l W (by omega) h)
    have H3 := Lib.hid (fun W (h : Bs W A m l) k => events_any A m c l W (by omega) h k)
    have H4 := Lib.hid (fun W (h : Bs W A m l) => refEvents_any A m c l W (by omega) h)
    obtain ⟨v, k, a, b, n, s, t, r, ie, hg, hr, hie⟩ : ∃ v k a b n s t, ∃ (r : Bool) (ie : Int), getOV (getO l) = .tuple #[.agg (OC v k a b n s t), .int .i64 ie] ∧ getORV (getO l) = .tuple #[.agg (OC v k a b n s t), .bool r] ∧ ie = (if r then 0 else 160) := by
      cases getO l with
      | none => exact ⟨0, 0, 0, 0, 0, [], [], false, 160, rfl, rfl, rfl⟩
      | some o => exact ⟨o.v, o.k, o.a, o.b, o.n, o.s, o.t, true, 0, rfl, rfl, rfl⟩
    rw [hg] at H1
    rw [hr] at H2
    clear hg hr
    have hel : ∀ L, eventsL l = some L → L.length ≤ 2 := by
      intro L hL
      unfold eventsL at hL
      split at hL
      · injection hL with hL; subst hL; simp
      · split at hL
        · injection hL with hL; subst hL; exact thirdO_len _
        · cases hL
    have HM := Lib.hid (fun L (h : L.length ≤ 2) A B m m2 c d W h1 h2 => same14_any L h A B m m2 c d W h1 h2)
    simp only [OC] at H1 H2
    cases hE : eventsL l with
    | none =>
      rw [hE] at H3 H4
      clear hel hE
      cases r with
      | false =>
        simp only [Bool.false_eq_true, if_false, if_true] at hie
        subst hie
        go_enter Tryz.func3, Tryz.ntmps3
        go_wp2_with fail
        (with_reducible refine (H1.out _ hB hN).mono ?_)
        rintro e w1 ⟨rfl, hb1⟩
        have hx1 := Blk.new w1 25 #[.int .i64 v, .int .i64 k, .int .i64 a, .int .i64 b, .int .i64 n, .string ⟨s.toArray⟩, .string ⟨t.toArray⟩]
        have hq1 := (hB.below hb1).alloc (.cells #[.int .i64 v, .int .i64 k, .int .i64 a, .int .i64 b, .int .i64 n, .string ⟨s.toArray⟩, .string ⟨t.toArray⟩] 25)
        have B1 := bel_alloc hb1 (.cells #[.int .i64 v, .int .i64 k, .int .i64 a, .int .i64 b, .int .i64 n, .string ⟨s.toArray⟩, .string ⟨t.toArray⟩] 25)
        clear hb1
        go_wp2_with fail
        (with_reducible refine (H2.out _ hq1).mono ?_)
        rintro e w2 ⟨rfl, hb2⟩
        have hx2 := (hx1.below hb2 hx1.lt).alloc (.cells #[.int .i64 v, .int .i64 k, .int .i64 a, .int .i64 b, .int .i64 n, .string ⟨s.toArray⟩, .string ⟨t.toArray⟩] 25)
        have hy2 := Blk.new w2 25 #[.int .i64 v, .int .i64 k, .int .i64 a, .int .i64 b, .int .i64 n, .string ⟨s.toArray⟩, .string ⟨t.toArray⟩]
        have hq2 := (hq1.below hb2).alloc (.cells #[.int .i64 v, .int .i64 k, .int .i64 a, .int .i64 b, .int .i64 n, .string ⟨s.toArray⟩, .string ⟨t.toArray⟩] 25)
        have B2 := bel_alloc (bel_step B1 hb2) (.cells #[.int .i64 v, .int .i64 k, .int .i64 a, .int .i64 b, .int .i64 n, .string ⟨s.toArray⟩, .string ⟨t.toArray⟩] 25)
        have hN2 := hN.below B2
        clear hb2 hx1 hq1 B1
        go_wp2_with fail
        (with_reducible refine (H3.out _ hq2 hN2).mono ?_)
        rintro e w3 ⟨he3, hb3⟩
        obtain rfl : e = .returned (.tuple #[.slice none 0 0, .int .i64 150]) := he3
        have hx3 := hx2.below hb3 hx2.lt
        have hy3 := hy2.below hb3 hy2.lt
        have hq3 := hq2.below hb3
        have B3 := bel_step B2 hb3
        clear hb3 hx2 hy2 hq2 B2 hN2
        go_wp2_with fail
        (with_reducible refine (H4.out _ hq3).mono ?_)
        rintro e w4 ⟨he4, hb4⟩
        obtain rfl : e = .returned (.tuple #[.slice none 0 0, .bool false]) := he4
        have hx4 := hx3.below hb4 hx3.lt
        have hy4 := hy3.below hb4 hy3.lt
        have B4 := bel_step B3 hb4
        have hN4 := hN.below B4
        clear hb4 hx3 hy3 hq3 B3
        go_wp2_with fail
        (with_reducible refine (HV.out _ hN4).mono ?_)
        rintro e w5 ⟨rfl, hb5⟩
        have hx5 := hx4.below hb5 hx4.lt
        have hy5 := hy4.below hb5 hy4.lt
        have B5 := bel_step B4 hb5
        have hR5 : Rw w5 none 0 (evsC []) := .inl rfl
        have p0 := hx5.cell 0
        have p1 := hx5.cell 1
        have p2 := hx5.cell 2
        have p3 := hx5.cell 3
        have p4 := hx5.cell 4
        have p5 := hx5.cell 5
        have p6 := hx5.cell 6
        try simp only [OC] at p0 p1 p2 p3 p4 p5 p6
        simp at p0 p1 p2 p3 p4 p5 p6
        have q0 := hy5.cell 0
        have q1 := hy5.cell 1
        have q2 := hy5.cell 2
        have q3 := hy5.cell 3
        have q4 := hy5.cell 4
        have q5 := hy5.cell 5
        have q6 := hy5.cell 6
        try simp only [OC] at q0 q1 q2 q3 q4 q5 q6
        simp at q0 q1 q2 q3 q4 q5 q6
        clear hb5 hx4 hy4 B4 hN4
        go_wp2_with fail
        (with_reducible refine (HM.out [] (by simp) _ _ 0 0 _ _ _ rfl rfl hR5 hR5).mono ?_)
        rintro e w6 ⟨rfl, hb6⟩
        go_wp2_with fail
        go_ret
        exact ⟨rfl, bel_step B5 hb6⟩
      | true =>
        simp only [Bool.false_eq_true, if_false, if_true] at hie
        subst hie
        go_enter Tryz.func3, Tryz.ntmps3
        go_wp2_with fail
        (with_reducible refine (H1.out _ hB hN).mono ?_)
        rintro e w1 ⟨rfl, hb1⟩
        have hx1 := Blk.new w1 25 #[.int .i64 v, .int .i64 k, .int .i64 a, .int .i64 b, .int .i64 n, .string ⟨s.toArray⟩, .string ⟨t.toArray⟩]
        have hq1 := (hB.below hb1).alloc (.cells #[.int .i64 v, .int .i64 k, .int .i64 a, .int .i64 b, .int .i64 n, .string ⟨s.toArray⟩, .string ⟨t.toArray⟩] 25)
        have B1 := bel_alloc hb1 (.cells #[.int .i64 v, .int .i64 k, .int .i64 a, .int .i64 b, .int .i64 n, .string ⟨s.toArray⟩, .string ⟨t.toArray⟩] 25)
        clear hb1
        go_wp2_with fail
        (with_reducible refine (H2.out _ hq1).mono ?_)
        rintro e w2 ⟨rfl, hb2⟩
        have hx2 := (hx1.below hb2 hx1.lt).alloc (.cells #[.int .i64 v, .int .i64 k, .int .i64 a, .int .i64 b, .int .i64 n, .string ⟨s.toArray⟩, .string ⟨t.toArray⟩] 25)
        have hy2 := Blk.new w2 25 #[.int .i64 v, .int .i64 k, .int .i64 a, .int .i64 b, .int .i64 n, .string ⟨s.toArray⟩, .string ⟨t.toArray⟩]
        have hq2 := (hq1.below hb2).alloc (.cells #[.int .i64 v, .int .i64 k, .int .i64 a, .int .i64 b, .int .i64 n, .string ⟨s.toArray⟩, .string ⟨t.toArray⟩] 25)
        have B2 := bel_alloc (bel_step B1 hb2) (.cells #[.int .i64 v, .int .i64 k, .int .i64 a, .int .i64 b, .int .i64 n, .string ⟨s.toArray⟩, .string ⟨t.toArray⟩] 25)
        have hN2 := hN.below B2
        clear hb2 hx1 hq1 B1
        go_wp2_with fail
        (with_reducible refine (H3.out _ hq2 hN2).mono ?_)
        rintro e w3 ⟨he3, hb3⟩
        obtain rfl : e = .returned (.tuple #[.slice none 0 0, .int .i64 150]) := he3
        have hx3 := hx2.below hb3 hx2.lt
        have hy3 := hy2.below hb3 hy2.lt
        have hq3 := hq2.below hb3
        have B3 := bel_step B2 hb3
        clear hb3 hx2 hy2 hq2 B2 hN2
        go_wp2_with fail
        (with_reducible refine (H4.out _ hq3).mono ?_)
        rintro e w4 ⟨he4, hb4⟩
        obtain rfl : e = .returned (.tuple #[.slice none 0 0, .bool false]) := he4
        have hx4 := hx3.below hb4 hx3.lt
        have hy4 := hy3.below hb4 hy3.lt
        have B4 := bel_step B3 hb4
        have hN4 := hN.below B4
        clear hb4 hx3 hy3 hq3 B3
        go_wp2_with fail
        (with_reducible refine (HV.out _ hN4).mono ?_)
        rintro e w5 ⟨rfl, hb5⟩
        have hx5 := hx4.below hb5 hx4.lt
        have hy5 := hy4.below hb5 hy4.lt
        have B5 := bel_step B4 hb5
        have hR5 : Rw w5 none 0 (evsC []) := .inl rfl
        have p0 := hx5.cell 0
        have p1 := hx5.cell 1
        have p2 := hx5.cell 2
        have p3 := hx5.cell 3
        have p4 := hx5.cell 4
        have p5 := hx5.cell 5
        have p6 := hx5.cell 6
        try simp only [OC] at p0 p1 p2 p3 p4 p5 p6
        simp at p0 p1 p2 p3 p4 p5 p6
        have q0 := hy5.cell 0
        have q1 := hy5.cell 1
        have q2 := hy5.cell 2
        have q3 := hy5.cell 3
        have q4 := hy5.cell 4
        have q5 := hy5.cell 5
        have q6 := hy5.cell 6
        try simp only [OC] at q0 q1 q2 q3 q4 q5 q6
        simp at q0 q1 q2 q3 q4 q5 q6
        clear hb5 hx4 hy4 B4 hN4
        go_wp2_with fail
        (with_reducible refine (HM.out [] (by simp) _ _ 0 0 _ _ _ rfl rfl hR5 hR5).mono ?_)
        rintro e w6 ⟨rfl, hb6⟩
        go_wp2_with fail
        go_ret
        exact ⟨rfl, bel_step B5 hb6⟩
    | some L =>
      have HLL := Lib.hid (hel L hE)
      rw [hE] at H3 H4
      clear hel hE
      cases r with
      | false =>
        simp only [Bool.false_eq_true, if_false, if_true] at hie
        subst hie
        go_enter Tryz.func3, Tryz.ntmps3
        go_wp2_with fail
        (with_reducible refine (H1.out _ hB hN).mono ?_)
        rintro e w1 ⟨rfl, hb1⟩
        have hx1 := Blk.new w1 25 #[.int .i64 v, .int .i64 k, .int .i64 a, .int .i64 b, .int .i64 n, .string ⟨s.toArray⟩, .string ⟨t.toArray⟩]
        have hq1 := (hB.below hb1).alloc (.cells #[.int .i64 v, .int .i64 k, .int .i64 a, .int .i64 b, .int .i64 n, .string ⟨s.toArray⟩, .string ⟨t.toArray⟩] 25)
        have B1 := bel_alloc hb1 (.cells #[.int .i64 v, .int .i64 k, .int .i64 a, .int .i64 b, .int .i64 n, .string ⟨s.toArray⟩, .string ⟨t.toArray⟩] 25)
        clear hb1
        go_wp2_with fail
        (with_reducible refine (H2.out _ hq1).mono ?_)
        rintro e w2 ⟨rfl, hb2⟩
        have hx2 := (hx1.below hb2 hx1.lt).alloc (.cells #[.int .i64 v, .int .i64 k, .int .i64 a, .int .i64 b, .int .i64 n, .string ⟨s.toArray⟩, .string ⟨t.toArray⟩] 25)
        have hy2 := Blk.new w2 25 #[.int .i64 v, .int .i64 k, .int .i64 a, .int .i64 b, .int .i64 n, .string ⟨s.toArray⟩, .string ⟨t.toArray⟩]
        have hq2 := (hq1.below hb2).alloc (.cells #[.int .i64 v, .int .i64 k, .int .i64 a, .int .i64 b, .int .i64 n, .string ⟨s.toArray⟩, .string ⟨t.toArray⟩] 25)
        have B2 := bel_alloc (bel_step B1 hb2) (.cells #[.int .i64 v, .int .i64 k, .int .i64 a, .int .i64 b, .int .i64 n, .string ⟨s.toArray⟩, .string ⟨t.toArray⟩] 25)
        have hN2 := hN.below B2
        clear hb2 hx1 hq1 B1
        go_wp2_with fail
        (with_reducible refine (H3.out _ hq2 hN2).mono ?_)
        rintro e w3 ⟨A3, c3, he3, ho3, hb3⟩
        obtain rfl : e = .returned (.tuple #[.slice A3 L.length c3, .int .i64 0]) := he3
        have hR3 := Rw.of_own ho3
        have hx3 := hx2.below hb3 hx2.lt
        have hy3 := hy2.below hb3 hy2.lt
        have hq3 := hq2.below hb3
        have B3 := bel_step B2 hb3
        clear hb3 hx2 hy2 hq2 B2 hN2 ho3
        go_wp2_with fail
        (with_reducible refine (H4.out _ hq3).mono ?_)
        rintro e w4 ⟨A4, c4, he4, ho4, hb4⟩
        obtain rfl : e = .returned (.tuple #[.slice A4 L.length c4, .bool true]) := he4
        have hL4 := Rw.of_own ho4
        have hR4 := hR3.below hb4
        have hx4 := hx3.below hb4 hx3.lt
        have hy4 := hy3.below hb4 hy3.lt
        have B4 := bel_step B3 hb4
        have hN4 := hN.below B4
        clear hb4 hx3 hy3 hq3 B3 ho4 hR3
        go_wp2_with fail
        (with_reducible refine (HV.out _ hN4).mono ?_)
        rintro e w5 ⟨rfl, hb5⟩
        have hx5 := hx4.below hb5 hx4.lt
        have hy5 := hy4.below hb5 hy4.lt
        have B5 := bel_step B4 hb5
        have hL5 := hL4.below hb5
        have hR5 := hR4.below hb5
        have p0 := hx5.cell 0
        have p1 := hx5.cell 1
        have p2 := hx5.cell 2
        have p3 := hx5.cell 3
        have p4 := hx5.cell 4
        have p5 := hx5.cell 5
        have p6 := hx5.cell 6
        try simp only [OC] at p0 p1 p2 p3 p4 p5 p6
        simp at p0 p1 p2 p3 p4 p5 p6
        have q0 := hy5.cell 0
        have q1 := hy5.cell 1
        have q2 := hy5.cell 2
        have q3 := hy5.cell 3
        have q4 := hy5.cell 4
        have q5 := hy5.cell 5
        have q6 := hy5.cell 6
        try simp only [OC] at q0 q1 q2 q3 q4 q5 q6
        simp at q0 q1 q2 q3 q4 q5 q6
        clear hb5 hx4 hy4 B4 hN4 hL4 hR4
        go_wp2_with fail
        (with_reducible refine (HM.out L HLL.out _ _ _ _ _ _ _ rfl rfl hR5 hL5).mono ?_)
        rintro e w6 ⟨rfl, hb6⟩
        go_wp2_with fail
        go_ret
        exact ⟨rfl, bel_step B5 hb6⟩
      | true =>
        simp only [Bool.false_eq_true, if_false, if_true] at hie
        subst hie
        go_enter Tryz.func3, Tryz.ntmps3
        go_wp2_with fail
        (with_reducible refine (H1.out _ hB hN).mono ?_)
        rintro e w1 ⟨rfl, hb1⟩
        have hx1 := Blk.new w1 25 #[.int .i64 v, .int .i64 k, .int .i64 a, .int .i64 b, .int .i64 n, .string ⟨s.toArray⟩, .string ⟨t.toArray⟩]
        have hq1 := (hB.below hb1).alloc (.cells #[.int .i64 v, .int .i64 k, .int .i64 a, .int .i64 b, .int .i64 n, .string ⟨s.toArray⟩, .string ⟨t.toArray⟩] 25)
        have B1 := bel_alloc hb1 (.cells #[.int .i64 v, .int .i64 k, .int .i64 a, .int .i64 b, .int .i64 n, .string ⟨s.toArray⟩, .string ⟨t.toArray⟩] 25)
        clear hb1
        go_wp2_with fail
        (with_reducible refine (H2.out _ hq1).mono ?_)
        rintro e w2 ⟨rfl, hb2⟩
        have hx2 := (hx1.below hb2 hx1.lt).alloc (.cells #[.int .i64 v, .int .i64 k, .int .i64 a, .int .i64 b, .int .i64 n, .string ⟨s.toArray⟩, .string ⟨t.toArray⟩] 25)
        have hy2 := Blk.new w2 25 #[.int .i64 v, .int .i64 k, .int .i64 a, .int .i64 b, .int .i64 n, .string ⟨s.toArray⟩, .string ⟨t.toArray⟩]
        have hq2 := (hq1.below hb2).alloc (.cells #[.int .i64 v, .int .i64 k, .int .i64 a, .int .i64 b, .int .i64 n, .string ⟨s.toArray⟩, .string ⟨t.toArray⟩] 25)
        have B2 := bel_alloc (bel_step B1 hb2) (.cells #[.int .i64 v, .int .i64 k, .int .i64 a, .int .i64 b, .int .i64 n, .string ⟨s.toArray⟩, .string ⟨t.toArray⟩] 25)
        have hN2 := hN.below B2
        clear hb2 hx1 hq1 B1
        go_wp2_with fail
        (with_reducible refine (H3.out _ hq2 hN2).mono ?_)
        rintro e w3 ⟨A3, c3, he3, ho3, hb3⟩
        obtain rfl : e = .returned (.tuple #[.slice A3 L.length c3, .int .i64 0]) := he3
        have hR3 := Rw.of_own ho3
        have hx3 := hx2.below hb3 hx2.lt
        have hy3 := hy2.below hb3 hy2.lt
        have hq3 := hq2.below hb3
        have B3 := bel_step B2 hb3
        clear hb3 hx2 hy2 hq2 B2 hN2 ho3
        go_wp2_with fail
        (with_reducible refine (H4.out _ hq3).mono ?_)
        rintro e w4 ⟨A4, c4, he4, ho4, hb4⟩
        obtain rfl : e = .returned (.tuple #[.slice A4 L.length c4, .bool true]) := he4
        have hL4 := Rw.of_own ho4
        have hR4 := hR3.below hb4
        have hx4 := hx3.below hb4 hx3.lt
        have hy4 := hy3.below hb4 hy3.lt
        have B4 := bel_step B3 hb4
        have hN4 := hN.below B4
        clear hb4 hx3 hy3 hq3 B3 ho4 hR3
        go_wp2_with fail
        (with_reducible refine (HV.out _ hN4).mono ?_)
        rintro e w5 ⟨rfl, hb5⟩
        have hx5 := hx4.below hb5 hx4.lt
        have hy5 := hy4.below hb5 hy4.lt
        have B5 := bel_step B4 hb5
        have hL5 := hL4.below hb5
        have hR5 := hR4.below hb5
        have p0 := hx5.cell 0
        have p1 := hx5.cell 1
        have p2 := hx5.cell 2
        have p3 := hx5.cell 3
        have p4 := hx5.cell 4
        have p5 := hx5.cell 5
        have p6 := hx5.cell 6
        try simp only [OC] at p0 p1 p2 p3 p4 p5 p6
        simp at p0 p1 p2 p3 p4 p5 p6
        have q0 := hy5.cell 0
        have q1 := hy5.cell 1
        have q2 := hy5.cell 2
        have q3 := hy5.cell 3
        have q4 := hy5.cell 4
        have q5 := hy5.cell 5
        have q6 := hy5.cell 6
        try simp only [OC] at q0 q1 q2 q3 q4 q5 q6
        simp at q0 q1 q2 q3 q4 q5 q6
        clear hb5 hx4 hy4 B4 hN4 hL4 hR4
        go_wp2_with fail
        (with_reducible refine (HM.out L HLL.out _ _ _ _ _ _ _ rfl rfl hR5 hL5).mono ?_)
        rintro e w6 ⟨rfl, hb6⟩
        go_wp2_with fail
        go_ret
        exact ⟨rfl, bel_step B5 hb6⟩
end Go.Proofs.YtedliepfaibefaaGreatDoor
