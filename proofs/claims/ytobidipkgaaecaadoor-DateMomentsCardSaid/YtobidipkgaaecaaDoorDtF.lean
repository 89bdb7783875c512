/-
  The document's dates: Of, digits, num, told, zone.
-/
import Derived.Test.YtobidipkgaaecaaDoorDtM
import Derived.Test.YtobidipkgaaecaaDoorTak
namespace Go.Proofs.YtobidipkgaaecaaDoor
open Go.RowKit Go.Nst
set_option maxRecDepth 100000
set_option linter.unusedVariables false
set_option linter.unusedSimpArgs false

theorem of_from {n y : Int} {k : Nat} (h : mayM n = true) (h0 : 1 ≤ y) (h1 : y ≤ 9999) (hk : 1 ≤ k) (hk2 : k ≤ 12) (ha : 0 ≤ (n + 62135596800) / 86400 - aheadY y - cumN y k) (hb : (n + 62135596800) / 86400 - aheadY y - cumN y k < daysM y k) :
    ofD n = ⟨y, k, (n + 62135596800) / 86400 - aheadY y - cumN y k + 1, (n + 62135596800) % 86400 / 3600, (n + 62135596800) % 86400 / 60 % 60, (n + 62135596800) % 86400 % 60⟩ := by
  have hok : Dt.ok ⟨y, k, (n + 62135596800) / 86400 - aheadY y - cumN y k + 1, (n + 62135596800) % 86400 / 3600, (n + 62135596800) % 86400 / 60 % 60, (n + 62135596800) % 86400 % 60⟩ = true := by
    rw [ok_iff]
    simp only
    omega
  obtain ⟨j, hj, _, _, hd, _⟩ := day_in hok
  simp only at hj hd
  obtain rfl : k = j := by omega
  have hm : Dt.mom ⟨y, k, (n + 62135596800) / 86400 - aheadY y - cumN y k + 1, (n + 62135596800) % 86400 / 3600, (n + 62135596800) % 86400 / 60 % 60, (n + 62135596800) % 86400 % 60⟩ = n := by
    unfold Dt.mom
    simp only
    rw [hd]
    omega
  have := ofD_mom hok
  rw [hm] at this
  exact this
theorem year_from {D : Int} (h0 : 0 ≤ D) (h1 : D ≤ 3652058) : 1 ≤ D / 366 + 1 ∧ D / 366 + 1 ≤ 9999 ∧ aheadY (D / 366 + 1) ≤ D := by
  unfold aheadY
  omega
theorem year_last {D : Int} (h1 : D ≤ 3652058) : D < aheadY 10000 := by
  have : aheadY 10000 = 3652059 := by decide
  omega
theorem ahead_up {y : Int} : aheadY y + 365 ≤ aheadY (y + 1) := by
  rw [ahead_next]
  split <;> omega
theorem ahead_bd2 {y : Int} (h0 : 1 ≤ y) (h1 : y ≤ 100000) : 0 ≤ aheadY y ∧ aheadY y ≤ 40000000 := aheadY_bd h0 h1
set_option maxHeartbeats 4000000 in
theorem of4_any (n : Int) (w : World) (h : mayM n = true) : Calls Tryd.prog 19 #[.int .i64 n] w fun e w' => e = .returned (Dt.val (ofD n)) ∧ Below w.heap.size w w' := by
  have HF := Lib.hid (fun (y : Int) (k : Nat) => of_from (n := n) (y := y) (k := k) h)
  rw [mayM_iff] at h
  have k0 : IntKind.i64.wrap (n + 62135596800) = n + 62135596800 := IntWalk.i64_in _ (by omega)
  have hD : 0 ≤ (n + 62135596800) / 86400 ∧ (n + 62135596800) / 86400 ≤ 3652058 := by omega
  have hR : 0 ≤ (n + 62135596800) % 86400 ∧ (n + 62135596800) % 86400 < 86400 := by omega
  have hY := year_from hD.1 hD.2
  have hL := year_last hD.2
  have hn : 0 ≤ n + 62135596800 := by omega
  have HV : Hid (Dt.val (ofD n) = Dt.val (ofD n)) := rfl
  generalize hDD : (n + 62135596800) / 86400 = D at *
  generalize hRR : (n + 62135596800) % 86400 = R at *
  have k1 : (n + 62135596800).tmod 86400 = R := by rw [← hRR]; exact Int.tmod_eq_emod_of_nonneg hn
  have k3 : (n + 62135596800).tdiv 86400 = D := by rw [← hDD]; exact Int.tdiv_eq_ediv_of_nonneg hn
  have HK := Lib.hid (And.intro hDD hRR)
  clear hRR
  have B0 := bel_alloc (Below.refl w.heap.size w) (.cells #[.int .i64 0, .int .i64 0, .int .i64 0, .int .i64 0, .int .i64 0, .int .i64 0] 23)
  go_enter Tryd.func19, Tryd.ntmps19
  go_wp2_with fail
  (with_reducible refine (zero_any _).mono ?_)
  rintro e w1 ⟨rfl, rfl⟩
  go_wp2_with fail
  go_loop [5] (fun v => ∃ y : Int, v = .int .i64 y ∧ 1 ≤ y ∧ y ≤ 9999 ∧ aheadY y ≤ D) (fun v => (9999 - intOf v).toNat)
  case atStart => exact ⟨_, rfl, hY.1, hY.2.1, hY.2.2⟩
  case round =>
    obtain ⟨y, rfl, hy1, hy2, ha⟩ := hrel
    by_cases hc : y < 9999 ∧ aheadY (y + 1) ≤ D
    · obtain ⟨hlt, hd⟩ := hc
      clear hY hL
      go_wp2_with fail
      (with_reducible refine (ahead_any _ _ (by omega) (by omega)).mono ?_)
      rintro e w1 ⟨rfl, rfl⟩
      go_wp2_with fail
      go_round
      case rel => exact ⟨y + 1, rfl, by omega, by omega, hd⟩
      case measure => simp [intOf]; omega
    · have hend : D < aheadY (y + 1) := by
        by_cases e : y = 9999
        · subst e; exact hL
        · omega
      have hnext := ahead_next y
      have h13 := cum13 y hy1 hy2
      have hlp : (if leapB y then (1 : Int) else 0) = 0 ∨ (if leapB y then (1 : Int) else 0) = 1 := by split <;> simp
      generalize (if leapB y then (1 : Int) else 0) = lp at *
      have hbd := aheadY_bd hy1 (show y ≤ 100000 by omega)
      have hyc := hc
      clear hc hY hL
      have hdiff : 0 ≤ D - aheadY y ∧ D - aheadY y < 365 + lp := by omega
      have H13 := Lib.hid h13
      have HA := Lib.hid (fun W => ahead_any y W hy1 (by omega))
      have HFy := Lib.hid (HF.out y)
      have HA1 := Lib.hid (fun W => ahead_any (y + 1) W (by omega) (by omega))
      have hb1 := aheadY_bd (y := y + 1) (by omega) (by omega)
      clear hnext h13 HF
      generalize aheadY (y + 1) = a1 at *
      generalize aheadY y = a at *
      have kD : IntKind.i64.wrap (D - a) = D - a := IntWalk.i64_in _ (by omega)
      by_cases hlt : y < 9999
      all_goals
        go_wp2_with fail
        first
          | ((with_reducible refine (HA1.out _).mono ?_); rintro e w1 ⟨rfl, rfl⟩)
          | skip
        go_wp2_with fail
        (with_reducible refine (HA.out _).mono ?_)
        rintro e w1 ⟨rfl, rfl⟩
        go_wp2_with fail
        go_loop [3, 6] (fun v i => ∃ (k : Nat) (x : Int), v = .int .i64 x ∧ i = .int .i64 (k : Int) ∧ 1 ≤ k ∧ k ≤ 12 ∧ 0 ≤ x ∧ x ≤ 400 ∧ Hid (x = D - a - cumN y k)) (fun _ i => 13 - (intOf i).toNat)
        case atStart => exact ⟨1, _, rfl, rfl, by omega, by omega, by omega, by omega, Lib.hid (by rw [cum_one]; omega)⟩
        case round =>
          obtain ⟨k, x, rfl, rfl, hk1, hk2, hx0, hx1, HX⟩ := hrel
          have HDY := Lib.hid (fun W => refDays_any y (k : Int) W)
          have hdb := daysM_bd y (k : Int)
          have HS := Lib.hid (cum_succ y k hk1)
          have HG := Lib.hid (fun h1 h2 => HFy.out k hy1 hy2 hk1 hk2 h1 h2)
          have HC := Lib.hid (show k = 12 → daysM y (k : Int) = daysM y 12 ∧ cumN y k = cumN y 12 from fun e => by subst e; exact ⟨rfl, rfl⟩)
          generalize daysM y (k : Int) = q at *
          by_cases hge : q ≤ x
          · have hk12 : k < 12 := by
              by_cases e : k = 12
              · exfalso
                have h1 := HX.out
                have h2 := HC.out e
                have h3 := H13.out
                omega
              · omega
            have HN : Hid (x - q = D - a - cumN y (k + 1)) := Lib.hid (by have h1 := HX.out; have h2 := HS.out; omega)
            have hkk : IntKind.i64.wrap (x - q) = x - q := IntWalk.i64_in _ (by omega)
            clear HS HG HC
            go_wp2_with fail
            (with_reducible refine (HDY.out _).mono ?_)
            rintro e w1 ⟨rfl, rfl⟩
            go_wp2_with fail
            (with_reducible refine (HDY.out _).mono ?_)
            rintro e w1 ⟨rfl, rfl⟩
            go_wp2_with fail
            go_round
            case rel => exact ⟨k + 1, x - q, rfl, by go_num, by omega, by omega, by omega, by omega, HN⟩
            case measure => simp [intOf]; omega
          · have HE : Hid (ofD n = ⟨y, k, x + 1, R / 3600, R / 60 % 60, R % 60⟩) := Lib.hid (by
              have h1 := HX.out
              have h2 := HG.out (by omega) (by omega)
              rw [h2, h1])
            clear HS HG HC
            go_wp2_with fail
            (with_reducible refine (HDY.out _).mono ?_)
            rintro e w1 ⟨rfl, rfl⟩
            go_wp2_with fail
            rw [HE.out]
            exact bodyPost_ret (v := Dt.val ⟨y, k, x + 1, R / 3600, R / 60 % 60, R % 60⟩) (by simp [results, Tryd.results19, go_sem, Dt.val, Dt.cells]) rfl ⟨rfl, bel_alloc (Below.refl _ _) _⟩
theorem ba_app2 (a b : List UInt8) : (ByteArray.mk a.toArray) ++ (ByteArray.mk b.toArray) = ⟨(a ++ b).toArray⟩ := by
  apply ByteArray.ext
  simp [ByteArray.data_append]
theorem dig_char (d : Nat) (h : d < 10) : (ByteArray.mk #[48, 49, 50, 51, 52, 53, 54, 55, 56, 57]).extract d (d + 1) = ⟨#[UInt8.ofNat (48 + d)]⟩ := by
  rcases (by omega : d = 0 ∨ d = 1 ∨ d = 2 ∨ d = 3 ∨ d = 4 ∨ d = 5 ∨ d = 6 ∨ d = 7 ∨ d = 8 ∨ d = 9) with rfl | rfl | rfl | rfl | rfl | rfl | rfl | rfl | rfl | rfl <;> rfl
theorem digL_cons4 : ∀ (z : Nat) (n : Int), digL (z + 1) n = UInt8.ofNat (48 + (n / 10 ^ z % 10).toNat) :: digL z n
  | 0, n => by simp [digL]
  | z + 1, n => by
    have ih := digL_cons4 z (n / 10)
    rw [digL, ih, Int.ediv_ediv_of_nonneg (by omega), show (10 : Int) * 10 ^ z = 10 ^ (z + 1) by rw [Int.pow_succ, Int.mul_comm]]
    rfl
set_option maxHeartbeats 4000000 in
theorem dig4_any (wide : Nat) (n : Int) (w : World) (h0 : 0 ≤ n) (h1 : n ≤ 100000) (hw : wide ≤ 9) :
    Calls Tryd.prog 41 #[.int .i64 n, .int .i64 (wide : Int)] w fun e w' => e = .returned (.string ⟨(digL wide n).toArray⟩) ∧ w = w' := by
  go_enter Tryd.func41, Tryd.ntmps41
  go_wp2_with fail
  go_loop [0, 5, 6] (fun f s i => ∃ (z : Nat) (q : Int), f = .int .i64 q ∧ s = .string ⟨(digL z n).toArray⟩ ∧ i = .int .i64 (z : Int) ∧ z ≤ wide ∧ 0 ≤ q ∧ q ≤ 100000 ∧ Hid (q = n / 10 ^ z)) (fun _ _ i => wide - (intOf i).toNat)
  case atStart => exact ⟨0, n, rfl, rfl, rfl, by omega, h0, h1, Lib.hid (by simp)⟩
  case round =>
    obtain ⟨z, q, rfl, rfl, rfl, hz, hq0, hq1, HQ⟩ := hrel
    by_cases hlt : z < wide
    · obtain ⟨d, hd⟩ : ∃ d : Nat, q % 10 = (d : Int) := ⟨(q % 10).toNat, by omega⟩
      have hd10 : d < 10 := by omega
      have t1 : q.tmod 10 = (d : Int) := by rw [Int.tmod_eq_emod_of_nonneg hq0]; exact hd
      have hdl := digL_len z n
      have HN : Hid ((ByteArray.mk #[UInt8.ofNat (48 + d)]) ++ (ByteArray.mk (digL z n).toArray) = ⟨(digL (z + 1) n).toArray⟩) := Lib.hid (by
        rw [digL_cons4, ← HQ.out, hd, show ByteArray.mk #[UInt8.ofNat (48 + d)] = ⟨[UInt8.ofNat (48 + d)].toArray⟩ from rfl, ba_app2]
        simp)
      have HQ2 : Hid (q / 10 = n / 10 ^ (z + 1)) := Lib.hid (by rw [HQ.out, Int.ediv_ediv_of_nonneg (Int.pow_nonneg (by omega)), Int.pow_succ])
      have hch := dig_char d hd10
      clear hd
      generalize UInt8.ofNat (48 + d) = c at *
      generalize digL z n = pre at *
      go_wp2_with fail
      go_round
      case rel => exact ⟨z + 1, q / 10, rfl, by rw [HN.out], by go_num, by omega, by omega, by omega, HQ2⟩
      case measure => simp [intOf]; omega
    · obtain rfl : z = wide := by omega
      clear HQ
      go_wp2_with fail
      go_ret
      exact ⟨rfl, rfl⟩
theorem str_at (s : ByteArray) (k : Nat) (w : World) (h : k < s.size) : (Instr.index 9 (.string s) (.int .i64 (k : Int))).run Tryd.prog w = .ok (.int .u8 (((s[k]'h).toNat : Nat) : Int)) w := by
  rw [run_index_string w 9 s .i64 _ Tryd.underlying9, dif_pos (by omega)]
  rfl
set_option maxHeartbeats 4000000 in
theorem num4_any (s : ByteArray) (w : World) (hs : s.size ≤ 1000000) :
    Calls Tryd.prog 52 #[.string s] w fun e w' => e = .returned (.int .i64 (numR (bl s))) ∧ w = w' := by
  have hlen := bl_len s
  by_cases hl : 1 ≤ s.size ∧ s.size ≤ 9
  · have d1 : decide ((s.size : Int) < 1) = false := by simp; omega
    have d2 : decide ((9 : Int) < (s.size : Int)) = false := by simp; omega
    have d3 : decide (9 < s.size) = false := by simp; omega
    have hpow : ∀ k : Nat, k ≤ 9 → (10 : Int) ^ k ≤ 1000000000 := by
      intro k hk
      rcases (by omega : k = 0 ∨ k = 1 ∨ k = 2 ∨ k = 3 ∨ k = 4 ∨ k = 5 ∨ k = 6 ∨ k = 7 ∨ k = 8 ∨ k = 9) with rfl | rfl | rfl | rfl | rfl | rfl | rfl | rfl | rfl | rfl <;> decide
    have HPW := Lib.hid hpow
    have HL := Lib.hid hlen
    clear hpow hlen
    go_enter Tryd.func52, Tryd.ntmps52
    go_wp2_with fail
    go_loop [3, 4] (fun v i => ∃ k : Nat, i = .int .i64 (k : Int) ∧ v = .int .i64 (numL ((bl s).take k)) ∧ k ≤ s.size ∧ Hid (((bl s).take k).all digB = true)) (fun _ i => s.size - (intOf i).toNat)
    case atStart => exact ⟨0, rfl, rfl, by omega, Lib.hid rfl⟩
    case round =>
      obtain ⟨k, rfl, rfl, hk, HA⟩ := hrel
      have hb0 := numL_in HA.out
      have hb1 := HPW.out k (by omega)
      have htl : ((bl s).take k).length = k := by rw [List.length_take, HL.out]; omega
      rw [htl] at hb0
      clear htl
      by_cases hlt : k < s.size
      · have hix := fun W => str_at s k W hlt
        have hg := bl_get s k hlt
        have hu := (s[k]'hlt).toNat_lt
        generalize s[k]'hlt = u at *
        have hsn : (bl s).take (k + 1) = (bl s).take k ++ [u] := by
          rw [List.take_add_one, hg]; rfl
        have HS := Lib.hid hsn
        have HM : Hid (u ∈ bl s) := Lib.hid (List.mem_of_getElem? hg)
        clear hsn hg
        by_cases hd : digB u = true
        · have hd' := hd
          unfold digB at hd'
          simp at hd'
          have t1 : decide (((u.toNat : Nat) : Int) < 48) = false := by simp; omega
          have t2 : decide ((57 : Int) < ((u.toNat : Nat) : Int)) = false := by simp; omega
          have q1 : IntKind.u8.wrap (((u.toNat : Nat) : Int) - 48) = ((u.toNat : Nat) : Int) - 48 := IntWalk.u8_in _ (by omega)
          have q2 : IntKind.i64.wrap (10 * numL ((bl s).take k)) = 10 * numL ((bl s).take k) := IntWalk.i64_in _ (by omega)
          have q3 : IntKind.i64.wrap (10 * numL ((bl s).take k) + (((u.toNat : Nat) : Int) - 48)) = 10 * numL ((bl s).take k) + (((u.toNat : Nat) : Int) - 48) := IntWalk.i64_in _ (by omega)
          have q4 : IntKind.i64.wrap (((u.toNat : Nat) : Int) - 48) = ((u.toNat : Nat) : Int) - 48 := IntWalk.i64_in _ (by omega)
          have HN : Hid (numL ((bl s).take (k + 1)) = 10 * numL ((bl s).take k) + (((u.toNat : Nat) : Int) - 48) ∧ ((bl s).take (k + 1)).all digB = true) := Lib.hid (by
            rw [HS.out, numL_snoc, List.all_append, HA.out]
            exact ⟨rfl, by simp [hd]⟩)
          generalize numL ((bl s).take k) = x at *
          clear hd hd' HA HM
          go_wp2_with fail
          go_round
          case rel => exact ⟨k + 1, by go_num, by rw [HN.out.1], by omega, Lib.hid HN.out.2⟩
          case measure => simp [intOf]; omega
        · have hd' : u.toNat < 48 ∨ 57 < u.toNat := by unfold digB at hd; simp at hd; omega
          have HV : Hid (numR (bl s) = -1) := Lib.hid (num_neg (by
            cases ha : (bl s).all digB with
            | false => rfl
            | true => exact absurd (List.all_eq_true.1 ha u HM.out) hd))
          clear hd HA HM
          generalize numL ((bl s).take k) = x at *
          go_wp2_with fail
          all_goals (go_ret; rw [HV.out]; exact ⟨rfl, rfl⟩)
      · obtain rfl : k = s.size := by omega
        have hfull : (bl s).take s.size = bl s := List.take_of_length_le (by rw [HL.out]; omega)
        have HV : Hid (numR (bl s) = numL ((bl s).take s.size)) := Lib.hid (by rw [hfull] at HA ⊢; exact num_pos HA.out (by rw [HL.out]; omega) (by rw [HL.out]; omega))
        clear hfull HA
        generalize numL ((bl s).take s.size) = x at *
        go_wp2_with fail
        go_ret
        rw [HV.out]
        exact ⟨rfl, rfl⟩
  · have HV : Hid (numR (bl s) = -1) := Lib.hid (by unfold numR; rw [if_neg]; rw [hlen]; omega)
    clear hlen
    generalize numR (bl s) = x at *
    go_enter Tryd.func52, Tryd.ntmps52
    by_cases h0 : s.size < 1
    all_goals
      go_wp2_with fail
      go_ret
      rw [HV.out]
      exact ⟨rfl, rfl⟩
theorem refMoment4 {y m d h_ mi s : Int} (hok : Dt.ok ⟨y, m, d, h_, mi, s⟩ = true) (w : World) : Calls Tryd.prog 14 #[.agg #[.int .i64 y, .int .i64 m, .int .i64 d, .int .i64 h_, .int .i64 mi, .int .i64 s]] w fun e w' => e = .returned (.int .i64 (Dt.mom ⟨y, m, d, h_, mi, s⟩)) ∧ Below w.heap.size w w' := by
  obtain ⟨k, hk, h1, h2, hd, _⟩ := day_in hok
  have hym := ok_ym hok
  have ho := (ok_iff _).1 hok
  have hb := daysM_bd y m
  simp only at hk hd hym ho hb
  have hm : Dt.mom ⟨y, m, d, h_, mi, s⟩ = 86400 * dayR y k d + 3600 * h_ + 60 * mi + s - 62135596800 := by
    unfold Dt.mom dayR
    simp only
    rw [hd]
    omega
  subst hk
  rw [hm]
  exact refMoment_any y k d h_ mi s w hym.1 hym.2.1 h1 h2 (by omega) (by omega) (by omega) (by omega) (by omega) (by omega) (by omega) (by omega)
set_option maxHeartbeats 4000000 in
theorem told4_any (x : Dt) (z : Int) (w : World) (hz0 : -1000000 ≤ z) (hz1 : z ≤ 1000000) :
    Calls Tryd.prog 53 #[Dt.val x, .int .i64 z] w fun e w' => e = .returned (znV (toldR x z)) ∧ Below w.heap.size w w' := by
  obtain ⟨y, m, d, h_, mi, s⟩ := x
  simp only [Dt.val, Dt.cells]
  have B0 := bel_alloc (Below.refl w.heap.size w) (.cells #[.int .i64 y, .int .i64 m, .int .i64 d, .int .i64 h_, .int .i64 mi, .int .i64 s] 23)
  have hv0 := Blk.new w 23 #[.int .i64 y, .int .i64 m, .int .i64 d, .int .i64 h_, .int .i64 mi, .int .i64 s]
  have HC := Lib.hid (fun W => refCheck4_any y m d h_ mi s W)
  cases hok : Dt.ok ⟨y, m, d, h_, mi, s⟩ with
  | false =>
    have HTN : Hid (toldR ⟨y, m, d, h_, mi, s⟩ z = none) := Lib.hid (told_no hok z)
    rw [hok] at HC
    clear hok
    go_enter Tryd.func53, Tryd.ntmps53
    go_wp2_with fail
    (with_reducible refine (HC.out _).mono ?_)
    rintro e w1 ⟨rfl, hb1⟩
    have B1 := bel_step B0 hb1
    clear hb1 B0 hv0
    go_wp2_with fail
    go_ret2
    rw [HTN.out]
    exact ⟨rfl, B1⟩
  | true =>
    have HM := Lib.hid (fun W => refMoment4 hok W)
    have hmb := mom_bounds hok
    rw [mayM_iff] at hmb
    have HTR : Hid (toldR ⟨y, m, d, h_, mi, s⟩ z = if mayM (Dt.mom ⟨y, m, d, h_, mi, s⟩ - z) = true then some (Dt.mom ⟨y, m, d, h_, mi, s⟩ - z) else none) := Lib.hid (by unfold toldR; rw [hok, Bool.true_and])
    rw [hok] at HC
    clear hok
    generalize Dt.mom ⟨y, m, d, h_, mi, s⟩ = M at *
    have k1 : IntKind.i64.wrap (M - z) = M - z := IntWalk.i64_in _ (by omega)
    have HMY := Lib.hid (fun W => refMay4_any (M - z) W)
    cases hmm : mayM (M - z) with
    | false =>
      rw [hmm] at HMY HTR
      have HTN : Hid (toldR ⟨y, m, d, h_, mi, s⟩ z = none) := Lib.hid HTR.out
      clear hmm HTR
      go_enter Tryd.func53, Tryd.ntmps53
      go_wp2_with fail
      (with_reducible refine (HC.out _).mono ?_)
      rintro e w1 ⟨rfl, hb1⟩
      have B1 := bel_step B0 hb1
      have hv1 := hv0.below hb1 hv0.lt
      have c0 := Blk.cell hv1 0
      have c1 := Blk.cell hv1 1
      have c2 := Blk.cell hv1 2
      have c3 := Blk.cell hv1 3
      have c4 := Blk.cell hv1 4
      have c5 := Blk.cell hv1 5
      simp at c0 c1 c2 c3 c4 c5
      clear hb1 B0 hv0
      go_wp2_with fail
      (with_reducible refine (HM.out _).mono ?_)
      rintro e w2 ⟨rfl, hb2⟩
      have B2 := bel_step B1 hb2
      clear c0 c1 c2 c3 c4 c5 hb2
      go_wp2_with fail
      (with_reducible refine (HMY.out _).mono ?_)
      rintro e w3 ⟨rfl, hb3⟩
      have B3 := bel_step B2 hb3
      clear hb3
      go_wp2_with fail
      go_ret2
      rw [HTN.out]
      exact ⟨rfl, B3⟩
    | true =>
      rw [hmm] at HMY HTR
      have HTN : Hid (toldR ⟨y, m, d, h_, mi, s⟩ z = some (M - z)) := Lib.hid HTR.out
      clear hmm HTR
      go_enter Tryd.func53, Tryd.ntmps53
      go_wp2_with fail
      (with_reducible refine (HC.out _).mono ?_)
      rintro e w1 ⟨rfl, hb1⟩
      have B1 := bel_step B0 hb1
      have hv1 := hv0.below hb1 hv0.lt
      have c0 := Blk.cell hv1 0
      have c1 := Blk.cell hv1 1
      have c2 := Blk.cell hv1 2
      have c3 := Blk.cell hv1 3
      have c4 := Blk.cell hv1 4
      have c5 := Blk.cell hv1 5
      simp at c0 c1 c2 c3 c4 c5
      clear hb1 B0 hv0
      go_wp2_with fail
      (with_reducible refine (HM.out _).mono ?_)
      rintro e w2 ⟨rfl, hb2⟩
      have B2 := bel_step B1 hb2
      have hv2 := hv1.below hb2 hv1.lt
      clear c0 c1 c2 c3 c4 c5 hb2
      go_wp2_with fail
      (with_reducible refine (HMY.out _).mono ?_)
      rintro e w3 ⟨rfl, hb3⟩
      have B3 := bel_step B2 hb3
      have hv3 := hv2.below hb3 hv2.lt
      clear hb3
      have c0 := Blk.cell hv3 0
      have c1 := Blk.cell hv3 1
      have c2 := Blk.cell hv3 2
      have c3 := Blk.cell hv3 3
      have c4 := Blk.cell hv3 4
      have c5 := Blk.cell hv3 5
      simp at c0 c1 c2 c3 c4 c5
      go_wp2_with fail
      (with_reducible refine (HM.out _).mono ?_)
      rintro e w4 ⟨rfl, hb4⟩
      have B4 := bel_step B3 hb4
      clear c0 c1 c2 c3 c4 c5 hb4
      go_wp2_with fail
      go_ret2
      rw [HTN.out]
      exact ⟨rfl, B4⟩
set_option maxHeartbeats 4000000 in
theorem zone4_any (c : UInt8) (h m : ByteArray) (w : World) (hh : h.size ≤ 1000000) (hm : m.size ≤ 1000000) :
    Calls Tryd.prog 54 #[.int .u8 (c.toNat : Int), .string h, .string m] w fun e w' => e = .returned (znV (zoneR c (bl h) (bl m))) ∧ w = w' := by
  have HH := Lib.hid (fun W => num4_any h W hh)
  have HM := Lib.hid (fun W => num4_any m W hm)
  have hc := c.toNat_lt
  have e43 : c = 43 ↔ c.toNat = 43 := by rw [← UInt8.toNat_inj]; rfl
  have e45 : c = 45 ↔ c.toNat = 45 := by rw [← UInt8.toNat_inj]; rfl
  have HV : Hid (zoneR c (bl h) (bl m) = if (c.toNat ≠ 43 ∧ c.toNat ≠ 45) ∨ h.size ≠ 2 ∨ m.size ≠ 2 ∨ numR (bl h) < 0 ∨ 23 < numR (bl h) ∨ numR (bl m) < 0 ∨ 59 < numR (bl m) then none else some (if c.toNat = 45 then -(3600 * numR (bl h) + 60 * numR (bl m)) else 3600 * numR (bl h) + 60 * numR (bl m))) := Lib.hid (by
    unfold zoneR offN
    rw [bl_len, bl_len]
    simp only [ne_eq, e43, e45])
  clear e43 e45
  generalize numR (bl h) = a at *
  generalize numR (bl m) = b at *
  generalize zoneR c (bl h) (bl m) = res at *
  generalize hcc : c.toNat = cn at *
  clear hcc
  by_cases hbad : (cn ≠ 43 ∧ cn ≠ 45) ∨ h.size ≠ 2 ∨ m.size ≠ 2 ∨ a < 0 ∨ 23 < a ∨ b < 0 ∨ 59 < b
  · have HV2 := Lib.hid (HV.out.trans (if_pos hbad))
    clear HV
    go_enter Tryd.func54, Tryd.ntmps54
    go_wp2_with fail
    (with_reducible refine (HH.out _).mono ?_)
    rintro e w1 ⟨rfl, rfl⟩
    go_wp2_with fail
    (with_reducible refine (HM.out _).mono ?_)
    rintro e w1 ⟨rfl, rfl⟩
    go_wp2_with fail
    all_goals first
      | (go_ret2; rw [HV2.out]; exact ⟨rfl, rfl⟩)
      | (exfalso; simp_all; omega)
  · have HV2 := Lib.hid (HV.out.trans (if_neg hbad))
    clear HV
    have h2 : h.size = 2 := by omega
    have m2 : m.size = 2 := by omega
    have ha0 : 0 ≤ a := by omega
    have ha1 : a ≤ 23 := by omega
    have hb0 : 0 ≤ b := by omega
    have hb1 : b ≤ 59 := by omega
    have t1 : decide (a < 0) = false := by simp; omega
    have t2 : decide (23 < a) = false := by simp; omega
    have t3 : decide (b < 0) = false := by simp; omega
    have t4 : decide (59 < b) = false := by simp; omega
    have hcn : cn = 43 ∨ cn = 45 := by omega
    clear hbad
    rcases hcn with rfl | rfl
    all_goals
      go_enter Tryd.func54, Tryd.ntmps54
      go_wp2_with fail
      (with_reducible refine (HH.out _).mono ?_)
      rintro e w1 ⟨rfl, rfl⟩
      go_wp2_with fail
      (with_reducible refine (HM.out _).mono ?_)
      rintro e w1 ⟨rfl, rfl⟩
      go_wp2_with fail
      go_ret2
      rw [HV2.out]
      exact ⟨rfl, rfl⟩
end Go.Proofs.YtobidipkgaaecaaDoor
