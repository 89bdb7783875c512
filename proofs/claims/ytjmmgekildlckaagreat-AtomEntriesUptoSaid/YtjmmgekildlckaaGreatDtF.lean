/-
  The document's dates: Of, digits, num, told, zone.
  The document's dates: Show, Web (printed by gen_dtg.py).
  The document's dates: split, index, named.
-/
import Derived.Test.YtjmmgekildlckaaGreatDtM
import Derived.Test.YtjmmgekildlckaaGreatTak
import Derived.Test.YtjmmgekildlckaaGreatStl
section
namespace Go.Proofs.YtjmmgekildlckaaGreat
open Go.RowKit Go.Nst
set_option maxRecDepth 100000
set_option linter.unusedVariables false
set_option linter.unusedSimpArgs false

theorem of_from {n y : Int} {k : Nat} (h : mayM n = true) (h0 : 1 ≤ y) (h1 : y ≤ 9999) (hk : 1 ≤ k) (hk2 : k ≤ 12) (ha : 0 ≤ (n + 62135596800) / 86400 - aheadY y - cumN y k) (hb : (n + 62135596800) / 86400 - aheadY y - cumN y k < daysM y k) :
    ofD n = ⟨y, k, (n + 62135596800) / 86400 - aheadY y - cumN y k + 1, (n + 62135596800) % 86400 / 3600, (n + 62135596800) % 86400 / 60 % 60, (n + 62135596800) % 86400 % 60⟩ := by
  have hok : Dt.ok ⟨y, k, (n + 62135596800) / 86400 - aheadY y - cumN y k + 1, (n + 62135596800) % 86400 / 3600, (n + 62135596800) % 86400 / 60 % 60, (n + 62135596800) % 86400 % 60⟩ = true := by
    rw [ok_iff]
    simp only
    omega
  obtain ⟨j, hj, _, _, hd, _⟩ := day_in hok
  simp only at hj hd
  obtain rfl : k = j := by omega
  have hm : Dt.mom ⟨y, k, (n + 62135596800) / 86400 - aheadY y - cumN y k + 1, (n + 62135596800) % 86400 / 3600, (n + 62135596800) % 86400 / 60 % 60, (n + 62135596800) % 86400 % 60⟩ = n := by
    unfold Dt.mom
    simp only
    rw [hd]
    omega
  have := ofD_mom hok
  rw [hm] at this
  exact this
theorem year_from {D : Int} (h0 : 0 ≤ D) (h1 : D ≤ 3652058) : 1 ≤ D / 366 + 1 ∧ D / 366 + 1 ≤ 9999 ∧ aheadY (D / 366 + 1) ≤ D := by
  unfold aheadY
  omega
theorem year_last {D : Int} (h1 : D ≤ 3652058) : D < aheadY 10000 := by
  have : aheadY 10000 = 3652059 := by decide
  omega
theorem ahead_up {y : Int} : aheadY y + 365 ≤ aheadY (y + 1) := by
  rw [ahead_next]
  split <;> omega
theorem ahead_bd2 {y : Int} (h0 : 1 ≤ y) (h1 : y ≤ 100000) : 0 ≤ aheadY y ∧ aheadY y ≤ 40000000 := aheadY_bd h0 h1
theorem ba_app2 (a b : List UInt8) : (ByteArray.mk a.toArray) ++ (ByteArray.mk b.toArray) = ⟨(a ++ b).toArray⟩ := by
  apply ByteArray.ext
  simp [ByteArray.data_append]
theorem dig_char (d : Nat) (h : d < 10) : (ByteArray.mk #[48, 49, 50, 51, 52, 53, 54, 55, 56, 57]).extract d (d + 1) = ⟨#[UInt8.ofNat (48 + d)]⟩ := by
  rcases (by omega : d = 0 ∨ d = 1 ∨ d = 2 ∨ d = 3 ∨ d = 4 ∨ d = 5 ∨ d = 6 ∨ d = 7 ∨ d = 8 ∨ d = 9) with rfl | rfl | rfl | rfl | rfl | rfl | rfl | rfl | rfl | rfl <;> rfl
theorem digL_cons4 : ∀ (z : Nat) (n : Int), digL (z + 1) n = UInt8.ofNat (48 + (n / 10 ^ z % 10).toNat) :: digL z n
  | 0, n => by simp [digL]
  | z + 1, n => by
    have ih := digL_cons4 z (n / 10)
    rw [digL, ih, Int.ediv_ediv_of_nonneg (by omega), show (10 : Int) * 10 ^ z = 10 ^ (z + 1) by rw [Int.pow_succ, Int.mul_comm]]
    rfl
theorem str_at (s : ByteArray) (k : Nat) (w : World) (h : k < s.size) : (Instr.index 9 (.string s) (.int .i64 (k : Int))).run Tryz.prog w = .ok (.int .u8 (((s[k]'h).toNat : Nat) : Int)) w := by
  rw [run_index_string w 9 s .i64 _ Tryz.underlying9, dif_pos (by omega)]
  rfl
set_option maxHeartbeats 4000000 in
theorem num4_any (s : ByteArray) (w : World) (hs : s.size ≤ 1000000) :
    Calls Tryz.prog 37 #[.string s] w fun e w' => e = .returned (.int .i64 (numR (bl s))) ∧ w = w' := by
  have hlen := bl_len s
  by_cases hl : 1 ≤ s.size ∧ s.size ≤ 9
  · have d1 : decide ((s.size : Int) < 1) = false := by simp; omega
    have d2 : decide ((9 : Int) < (s.size : Int)) = false := by simp; omega
    have d3 : decide (9 < s.size) = false := by simp; omega
    have hpow : ∀ k : Nat, k ≤ 9 → (10 : Int) ^ k ≤ 1000000000 := by
      intro k hk
      rcases (by omega : k = 0 ∨ k = 1 ∨ k = 2 ∨ k = 3 ∨ k = 4 ∨ k = 5 ∨ k = 6 ∨ k = 7 ∨ k = 8 ∨ k = 9) with rfl | rfl | rfl | rfl | rfl | rfl | rfl | rfl | rfl | rfl <;> decide
    have HPW := Lib.hid hpow
    have HL := Lib.hid hlen
    clear hpow hlen
    go_enter Tryz.func37, Tryz.ntmps37
    go_wp2_with fail
    go_loop [3, 4] (fun v i => ∃ k : Nat, i = .int .i64 (k : Int) ∧ v = .int .i64 (numL ((bl s).take k)) ∧ k ≤ s.size ∧ Hid (((bl s).take k).all digB = true)) (fun _ i => s.size - (intOf i).toNat)
    case atStart => exact ⟨0, rfl, rfl, by omega, Lib.hid rfl⟩
    case round =>
      obtain ⟨k, rfl, rfl, hk, HA⟩ := hrel
      have hb0 := numL_in HA.out
      have hb1 := HPW.out k (by omega)
      have htl : ((bl s).take k).length = k := by rw [List.length_take, HL.out]; omega
      rw [htl] at hb0
      clear htl
      by_cases hlt : k < s.size
      · have hix := fun W => str_at s k W hlt
        have hg := bl_get s k hlt
        have hu := (s[k]'hlt).toNat_lt
        generalize s[k]'hlt = u at *
        have hsn : (bl s).take (k + 1) = (bl s).take k ++ [u] := by
          rw [List.take_add_one, hg]; rfl
        have HS := Lib.hid hsn
        have HM : Hid (u ∈ bl s) := Lib.hid (List.mem_of_getElem? hg)
        clear hsn hg
        by_cases hd : digB u = true
        · have hd' := hd
          unfold digB at hd'
          simp at hd'
          have t1 : decide (((u.toNat : Nat) : Int) < 48) = false := by simp; omega
          have t2 : decide ((57 : Int) < ((u.toNat : Nat) : Int)) = false := by simp; omega
          have q1 : IntKind.u8.wrap (((u.toNat : Nat) : Int) - 48) = ((u.toNat : Nat) : Int) - 48 := IntWalk.u8_in _ (by omega)
          have q2 : IntKind.i64.wrap (10 * numL ((bl s).take k)) = 10 * numL ((bl s).take k) := IntWalk.i64_in _ (by omega)
          have q3 : IntKind.i64.wrap (10 * numL ((bl s).take k) + (((u.toNat : Nat) : Int) - 48)) = 10 * numL ((bl s).take k) + (((u.toNat : Nat) : Int) - 48) := IntWalk.i64_in _ (by omega)
          have q4 : IntKind.i64.wrap (((u.toNat : Nat) : Int) - 48) = ((u.toNat : Nat) : Int) - 48 := IntWalk.i64_in _ (by omega)
          have HN : Hid (numL ((bl s).take (k + 1)) = 10 * numL ((bl s).take k) + (((u.toNat : Nat) : Int) - 48) ∧ ((bl s).take (k + 1)).all digB = true) := Lib.hid (by
            rw [HS.out, numL_snoc, List.all_append, HA.out]
            exact ⟨rfl, by simp [hd]⟩)
          generalize numL ((bl s).take k) = x at *
          clear hd hd' HA HM
          go_wp2_with fail
          go_round
          case rel => exact ⟨k + 1, by go_num, by rw [HN.out.1], by omega, Lib.hid HN.out.2⟩
          case measure => simp [intOf]; omega
        · have hd' : u.toNat < 48 ∨ 57 < u.toNat := by unfold digB at hd; simp at hd; omega
          have HV : Hid (numR (bl s) = -1) := Lib.hid (num_neg (by
            cases ha : (bl s).all digB with
            | false => rfl
            | true => exact absurd (List.all_eq_true.1 ha u HM.out) hd))
          clear hd HA HM
          generalize numL ((bl s).take k) = x at *
          go_wp2_with fail
          all_goals (go_ret; rw [HV.out]; exact ⟨rfl, rfl⟩)
      · obtain rfl : k = s.size := by omega
        have hfull : (bl s).take s.size = bl s := List.take_of_length_le (by rw [HL.out]; omega)
        have HV : Hid (numR (bl s) = numL ((bl s).take s.size)) := Lib.hid (by rw [hfull] at HA ⊢; exact num_pos HA.out (by rw [HL.out]; omega) (by rw [HL.out]; omega))
        clear hfull HA
        generalize numL ((bl s).take s.size) = x at *
        go_wp2_with fail
        go_ret
        rw [HV.out]
        exact ⟨rfl, rfl⟩
  · have HV : Hid (numR (bl s) = -1) := Lib.hid (by unfold numR; rw [if_neg]; rw [hlen]; omega)
    clear hlen
    generalize numR (bl s) = x at *
    go_enter Tryz.func37, Tryz.ntmps37
    by_cases h0 : s.size < 1
    all_goals
      go_wp2_with fail
      go_ret
      rw [HV.out]
      exact ⟨rfl, rfl⟩
theorem refMoment4 {y m d h_ mi s : Int} (hok : Dt.ok ⟨y, m, d, h_, mi, s⟩ = true) (w : World) : Calls Tryz.prog 64 #[.agg #[.int .i64 y, .int .i64 m, .int .i64 d, .int .i64 h_, .int .i64 mi, .int .i64 s]] w fun e w' => e = .returned (.int .i64 (Dt.mom ⟨y, m, d, h_, mi, s⟩)) ∧ Below w.heap.size w w' := by
  obtain ⟨k, hk, h1, h2, hd, _⟩ := day_in hok
  have hym := ok_ym hok
  have ho := (ok_iff _).1 hok
  have hb := daysM_bd y m
  simp only at hk hd hym ho hb
  have hm : Dt.mom ⟨y, m, d, h_, mi, s⟩ = 86400 * dayR y k d + 3600 * h_ + 60 * mi + s - 62135596800 := by
    unfold Dt.mom dayR
    simp only
    rw [hd]
    omega
  subst hk
  rw [hm]
  exact refMoment_any y k d h_ mi s w hym.1 hym.2.1 h1 h2 (by omega) (by omega) (by omega) (by omega) (by omega) (by omega) (by omega) (by omega)
set_option maxHeartbeats 4000000 in
theorem told4_any (x : Dt) (z : Int) (w : World) (hz0 : -1000000 ≤ z) (hz1 : z ≤ 1000000) :
    Calls Tryz.prog 38 #[Dt.val x, .int .i64 z] w fun e w' => e = .returned (znV (toldR x z)) ∧ Below w.heap.size w w' := by
  obtain ⟨y, m, d, h_, mi, s⟩ := x
  simp only [Dt.val, Dt.cells]
  have B0 := bel_alloc (Below.refl w.heap.size w) (.cells #[.int .i64 y, .int .i64 m, .int .i64 d, .int .i64 h_, .int .i64 mi, .int .i64 s] 68)
  have hv0 := Blk.new w 68 #[.int .i64 y, .int .i64 m, .int .i64 d, .int .i64 h_, .int .i64 mi, .int .i64 s]
  have HC := Lib.hid (fun W => refCheck4_any y m d h_ mi s W)
  cases hok : Dt.ok ⟨y, m, d, h_, mi, s⟩ with
  | false =>
    have HTN : Hid (toldR ⟨y, m, d, h_, mi, s⟩ z = none) := Lib.hid (told_no hok z)
    rw [hok] at HC
    clear hok
    go_enter Tryz.func38, Tryz.ntmps38
    go_wp2_with fail
    (with_reducible refine (HC.out _).mono ?_)
    rintro e w1 ⟨rfl, hb1⟩
    have B1 := bel_step B0 hb1
    clear hb1 B0 hv0
    go_wp2_with fail
    go_ret2
    rw [HTN.out]
    exact ⟨rfl, B1⟩
  | true =>
    have HM := Lib.hid (fun W => refMoment4 hok W)
    have hmb := mom_bounds hok
    rw [mayM_iff] at hmb
    have HTR : Hid (toldR ⟨y, m, d, h_, mi, s⟩ z = if mayM (Dt.mom ⟨y, m, d, h_, mi, s⟩ - z) = true then some (Dt.mom ⟨y, m, d, h_, mi, s⟩ - z) else none) := Lib.hid (by unfold toldR; rw [hok, Bool.true_and])
    rw [hok] at HC
    clear hok
    generalize Dt.mom ⟨y, m, d, h_, mi, s⟩ = M at *
    have k1 : IntKind.i64.wrap (M - z) = M - z := IntWalk.i64_in _ (by omega)
    have HMY := Lib.hid (fun W => refMay4_any (M - z) W)
    cases hmm : mayM (M - z) with
    | false =>
      rw [hmm] at HMY HTR
      have HTN : Hid (toldR ⟨y, m, d, h_, mi, s⟩ z = none) := Lib.hid HTR.out
      clear hmm HTR
      go_enter Tryz.func38, Tryz.ntmps38
      go_wp2_with fail
      (with_reducible refine (HC.out _).mono ?_)
      rintro e w1 ⟨rfl, hb1⟩
      have B1 := bel_step B0 hb1
      have hv1 := hv0.below hb1 hv0.lt
      have c0 := Blk.cell hv1 0
      have c1 := Blk.cell hv1 1
      have c2 := Blk.cell hv1 2
      have c3 := Blk.cell hv1 3
      have c4 := Blk.cell hv1 4
      have c5 := Blk.cell hv1 5
      simp at c0 c1 c2 c3 c4 c5
      clear hb1 B0 hv0
      go_wp2_with fail
      (with_reducible refine (HM.out _).mono ?_)
      rintro e w2 ⟨rfl, hb2⟩
      have B2 := bel_step B1 hb2
      clear c0 c1 c2 c3 c4 c5 hb2
      go_wp2_with fail
      (with_reducible refine (HMY.out _).mono ?_)
      rintro e w3 ⟨rfl, hb3⟩
      have B3 := bel_step B2 hb3
      clear hb3
      go_wp2_with fail
      go_ret2
      rw [HTN.out]
      exact ⟨rfl, B3⟩
    | true =>
      rw [hmm] at HMY HTR
      have HTN : Hid (toldR ⟨y, m, d, h_, mi, s⟩ z = some (M - z)) := Lib.hid HTR.out
      clear hmm HTR
      go_enter Tryz.func38, Tryz.ntmps38
      go_wp2_with fail
      (with_reducible refine (HC.out _).mono ?_)
      rintro e w1 ⟨rfl, hb1⟩
      have B1 := bel_step B0 hb1
      have hv1 := hv0.below hb1 hv0.lt
      have c0 := Blk.cell hv1 0
      have c1 := Blk.cell hv1 1
      have c2 := Blk.cell hv1 2
      have c3 := Blk.cell hv1 3
      have c4 := Blk.cell hv1 4
      have c5 := Blk.cell hv1 5
      simp at c0 c1 c2 c3 c4 c5
      clear hb1 B0 hv0
      go_wp2_with fail
      (with_reducible refine (HM.out _).mono ?_)
      rintro e w2 ⟨rfl, hb2⟩
      have B2 := bel_step B1 hb2
      have hv2 := hv1.below hb2 hv1.lt
      clear c0 c1 c2 c3 c4 c5 hb2
      go_wp2_with fail
      (with_reducible refine (HMY.out _).mono ?_)
      rintro e w3 ⟨rfl, hb3⟩
      have B3 := bel_step B2 hb3
      have hv3 := hv2.below hb3 hv2.lt
      clear hb3
      have c0 := Blk.cell hv3 0
      have c1 := Blk.cell hv3 1
      have c2 := Blk.cell hv3 2
      have c3 := Blk.cell hv3 3
      have c4 := Blk.cell hv3 4
      have c5 := Blk.cell hv3 5
      simp at c0 c1 c2 c3 c4 c5
      go_wp2_with fail
      (with_reducible refine (HM.out _).mono ?_)
      rintro e w4 ⟨rfl, hb4⟩
      have B4 := bel_step B3 hb4
      clear c0 c1 c2 c3 c4 c5 hb4
      go_wp2_with fail
      go_ret2
      rw [HTN.out]
      exact ⟨rfl, B4⟩
set_option maxHeartbeats 4000000 in
theorem zone4_any (c : UInt8) (h m : ByteArray) (w : World) (hh : h.size ≤ 1000000) (hm : m.size ≤ 1000000) :
    Calls Tryz.prog 39 #[.int .u8 (c.toNat : Int), .string h, .string m] w fun e w' => e = .returned (znV (zoneR c (bl h) (bl m))) ∧ w = w' := by
  have HH := Lib.hid (fun W => num4_any h W hh)
  have HM := Lib.hid (fun W => num4_any m W hm)
  have hc := c.toNat_lt
  have e43 : c = 43 ↔ c.toNat = 43 := by rw [← UInt8.toNat_inj]; rfl
  have e45 : c = 45 ↔ c.toNat = 45 := by rw [← UInt8.toNat_inj]; rfl
  have HV : Hid (zoneR c (bl h) (bl m) = if (c.toNat ≠ 43 ∧ c.toNat ≠ 45) ∨ h.size ≠ 2 ∨ m.size ≠ 2 ∨ numR (bl h) < 0 ∨ 23 < numR (bl h) ∨ numR (bl m) < 0 ∨ 59 < numR (bl m) then none else some (if c.toNat = 45 then -(3600 * numR (bl h) + 60 * numR (bl m)) else 3600 * numR (bl h) + 60 * numR (bl m))) := Lib.hid (by
    unfold zoneR offN
    rw [bl_len, bl_len]
    simp only [ne_eq, e43, e45])
  clear e43 e45
  generalize numR (bl h) = a at *
  generalize numR (bl m) = b at *
  generalize zoneR c (bl h) (bl m) = res at *
  generalize hcc : c.toNat = cn at *
  clear hcc
  by_cases hbad : (cn ≠ 43 ∧ cn ≠ 45) ∨ h.size ≠ 2 ∨ m.size ≠ 2 ∨ a < 0 ∨ 23 < a ∨ b < 0 ∨ 59 < b
  · have HV2 := Lib.hid (HV.out.trans (if_pos hbad))
    clear HV
    go_enter Tryz.func39, Tryz.ntmps39
    go_wp2_with fail
    (with_reducible refine (HH.out _).mono ?_)
    rintro e w1 ⟨rfl, rfl⟩
    go_wp2_with fail
    (with_reducible refine (HM.out _).mono ?_)
    rintro e w1 ⟨rfl, rfl⟩
    go_wp2_with fail
    all_goals first
      | (go_ret2; rw [HV2.out]; exact ⟨rfl, rfl⟩)
      | (exfalso; simp_all; omega)
  · have HV2 := Lib.hid (HV.out.trans (if_neg hbad))
    clear HV
    have h2 : h.size = 2 := by omega
    have m2 : m.size = 2 := by omega
    have ha0 : 0 ≤ a := by omega
    have ha1 : a ≤ 23 := by omega
    have hb0 : 0 ≤ b := by omega
    have hb1 : b ≤ 59 := by omega
    have t1 : decide (a < 0) = false := by simp; omega
    have t2 : decide (23 < a) = false := by simp; omega
    have t3 : decide (b < 0) = false := by simp; omega
    have t4 : decide (59 < b) = false := by simp; omega
    have hcn : cn = 43 ∨ cn = 45 := by omega
    clear hbad
    rcases hcn with rfl | rfl
    all_goals
      go_enter Tryz.func39, Tryz.ntmps39
      go_wp2_with fail
      (with_reducible refine (HH.out _).mono ?_)
      rintro e w1 ⟨rfl, rfl⟩
      go_wp2_with fail
      (with_reducible refine (HM.out _).mono ?_)
      rintro e w1 ⟨rfl, rfl⟩
      go_wp2_with fail
      go_ret2
      rw [HV2.out]
      exact ⟨rfl, rfl⟩
end Go.Proofs.YtjmmgekildlckaaGreat
end
section
namespace Go.Proofs.YtjmmgekildlckaaGreat
open Go.RowKit Go.Nst
set_option maxRecDepth 100000
set_option linter.unusedVariables false
set_option linter.unusedSimpArgs false

end Go.Proofs.YtjmmgekildlckaaGreat
end
section
namespace Go.Proofs.YtjmmgekildlckaaGreat
open Go.RowKit Go.Nst
set_option maxRecDepth 100000
set_option linter.unusedVariables false
set_option linter.unusedSimpArgs false

/-- what holds while a text is cut: k bytes are looked at, f are done -/
def SpI (S : ByteArray) (b : UInt8) (k f : Nat) (acc : List (List UInt8)) : Prop :=
  (k ≤ S.size ∧ f ≤ k ∧ splitL b (bl S) = acc ++ splitL b ((bl S).drop f) ∧ ∀ c ∈ ((bl S).drop f).take (k - f), c ≠ b) ∨ (k = S.size + 1 ∧ acc = splitL b (bl S))
theorem spI_same {S : ByteArray} {b : UInt8} {k f : Nat} {acc : List (List UInt8)} (h : SpI S b k f acc) (hk : k < S.size) (hb : S[k]'hk ≠ b) : SpI S b (k + 1) f acc := by
  rcases h with ⟨h1, h2, h3, h4⟩ | ⟨h1, _⟩
  · refine .inl ⟨hk, by omega, h3, ?_⟩
    have e : ((bl S).drop f).take (k + 1 - f) = ((bl S).drop f).take (k - f) ++ [S[k]'hk] := by
      rw [show k + 1 - f = (k - f) + 1 by omega, List.take_add_one, List.getElem?_drop, show f + (k - f) = k by omega, bl_get S k hk]
      rfl
    rw [e]
    intro c hc
    rcases List.mem_append.1 hc with hc | hc
    · exact h4 c hc
    · simp at hc
      rw [hc]
      exact hb
  · omega
theorem spI_cut {S : ByteArray} {b : UInt8} {k f : Nat} {acc : List (List UInt8)} (h : SpI S b k f acc) (hk : k < S.size) (hb : S[k]'hk = b) : SpI S b (k + 1) (k + 1) (acc ++ [((bl S).drop f).take (k - f)]) ∧ f ≤ k := by
  rcases h with ⟨h1, h2, h3, h4⟩ | ⟨h1, _⟩
  · refine ⟨.inl ⟨hk, Nat.le_refl _, ?_, by simp⟩, h2⟩
    have e : (bl S).drop f = ((bl S).drop f).take (k - f) ++ b :: (bl S).drop (k + 1) := by
      have e1 : ((bl S).drop f).drop (k - f) = b :: (bl S).drop (k + 1) := by
        rw [List.drop_drop, show f + (k - f) = k by omega]
        have h2 : k < (bl S).length := by rw [bl_len]; exact hk
        have h9 : (bl S)[k]'h2 = b := by
          have := bl_get S k hk
          rw [List.getElem?_eq_getElem h2] at this
          injection this with this
          try exact this.trans hb
        rw [List.drop_eq_getElem_cons h2, h9]
      rw [← e1, List.take_append_drop]
    have e2 := split_at ((bl S).drop (k + 1)) h4
    rw [← e] at e2
    rw [h3, e2]
    try simp
  · omega
theorem spI_last {S : ByteArray} {b : UInt8} {f : Nat} {acc : List (List UInt8)} (h : SpI S b S.size f acc) : SpI S b (S.size + 1) (S.size + 1) (acc ++ [((bl S).drop f).take (S.size - f)]) ∧ f ≤ S.size := by
  rcases h with ⟨h1, h2, h3, h4⟩ | ⟨h1, _⟩
  · refine ⟨.inr ⟨rfl, ?_⟩, h2⟩
    have e : ((bl S).drop f).take (S.size - f) = (bl S).drop f := List.take_of_length_le (by rw [List.length_drop, bl_len]; omega)
    rw [e] at h4 ⊢
    rw [h3, split_none h4]
  · omega
theorem spI_end {S : ByteArray} {b : UInt8} {k f : Nat} {acc : List (List UInt8)} (h : SpI S b k f acc) (hk : S.size < k) : acc = splitL b (bl S) := by
  rcases h with ⟨h1, _⟩ | ⟨_, h2⟩
  · omega
  · exact h2
theorem str_mid4 (S : ByteArray) (i k : Nat) : S.extract i k = ⟨(((bl S).drop i).take (k - i)).toArray⟩ := by rw [← bl_mid, bl_mk]
theorem ext_size4 (S : ByteArray) (i k : Nat) : (S.extract i k).size ≤ S.size := by
  rw [← bl_len, bl_mid, ← bl_len]
  simp
  omega
theorem bel_drewN {B : Nat} {w w' : World} (h : Below B w w') (n : Nat) : Below B w (w'.drewN n) := ⟨h.os, h.tape, h.output, h.size, h.block⟩
theorem index_here : ∀ {L : List (List UInt8)} {x : List UInt8} {k : Nat}, (∀ y ∈ L.take k, y ≠ x) → L[k]? = some x → indexL L x = k
  | [], x, k, _, h => by simp at h
  | y :: L, x, 0, _, h => by simp at h; simp [indexL, h]
  | y :: L, x, k + 1, h1, h => by
    have h2 : y ≠ x := h1 y (by simp)
    have h3 := index_here (L := L) (x := x) (k := k) (fun z hz => h1 z (by simp [hz])) (by simpa using h)
    unfold indexL
    rw [if_neg h2, h3, if_neg (by omega)]
    omega
def namesZ : List (List UInt8) := [[71, 77, 84], [85, 84], [85, 84, 67], [90], [69, 83, 84], [69, 68, 84], [67, 83, 84], [67, 68, 84], [77, 83, 84], [77, 68, 84], [80, 83, 84], [80, 68, 84]]
def hoursZ : List Int := [0, 0, 0, 0, -5, -4, -6, -5, -7, -6, -8, -7]
theorem zone_names (l : List UInt8) : (indexL namesZ l = -1 ∧ zoneN l = none) ∨ ∃ k : Nat, k < 12 ∧ indexL namesZ l = k ∧ ∃ z : Int, hoursZ[k]? = some z ∧ zoneN l = some (3600 * z) ∧ -100 ≤ z ∧ z ≤ 100 := by
  by_cases h : l ∈ namesZ
  · right
    have hall : ∀ s ∈ namesZ, ∃ k : Fin 12, indexL namesZ s = (k.1 : Int) ∧ zoneN s = some (3600 * hoursZ.getD k.1 0) ∧ -100 ≤ hoursZ.getD k.1 0 ∧ hoursZ.getD k.1 0 ≤ 100 ∧ hoursZ[k.1]? = some (hoursZ.getD k.1 0) := by decide +kernel
    obtain ⟨k, h1, h2, h3, h4, h5⟩ := hall l h
    exact ⟨k.1, k.2, h1, _, h5, h2, h3, h4⟩
  · left
    refine ⟨indexL_not h, ?_⟩
    simp only [namesZ, List.mem_cons, List.not_mem_nil, or_false, not_or] at h
    unfold zoneN
    simp [h]
theorem zoneM_five {S : ByteArray} (h : zoneN (bl S) = none) (h5 : S.size = 5) : zoneM (bl S) = zoneR (S[0]'(by omega)) (bl (S.extract 1 3)) (bl (S.extract 3 5)) := by
  have e := bl_cons S (by omega)
  unfold zoneM
  rw [h, bl_mid, bl_mid]
  simp only
  rw [if_neg (by rw [bl_len]; omega)]
  have e4 : ((bl S).drop 3).take (5 - 3) = (bl S).drop 3 := List.take_of_length_le (by rw [List.length_drop, bl_len]; omega)
  have eh : (bl S).headD 0 = S[0]'(by omega) := by rw [e]; rfl
  rw [e4, eh]
theorem zoneM_not {S : ByteArray} (h : zoneN (bl S) = none) (h5 : S.size ≠ 5) : zoneM (bl S) = none := by
  unfold zoneM
  rw [h, bl_len]
  simp [h5]
theorem zoneM_bd {l : List UInt8} {z : Int} (h : zoneM l = some z) : -1000000 ≤ z ∧ z ≤ 1000000 := by
  rcases zone_names l with ⟨_, h1⟩ | ⟨k, _, _, x, _, h1, h2, h3⟩
  · unfold zoneM at h
    rw [h1] at h
    simp only at h
    split at h
    · cases h
    · unfold zoneR at h
      split at h
      · cases h
      · injection h with h
        unfold offN at h
        split at h <;> omega
  · unfold zoneM at h
    rw [h1] at h
    injection h with h
    omega
end Go.Proofs.YtjmmgekildlckaaGreat
end
