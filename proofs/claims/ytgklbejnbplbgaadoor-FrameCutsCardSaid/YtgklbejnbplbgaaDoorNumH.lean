/-
  The reference's Get, May.
-/
import Derived.Test.YtgklbejnbplbgaaDoorNumG
namespace Go.Proofs.YtgklbejnbplbgaaDoor
open Go.RowKit Go.Nst
set_option maxRecDepth 100000

theorem refMay_any (n : Int) (w : World) : Calls Tryd.prog 46 #[.int .i64 n] w fun e w' => e = .returned (.bool (mayB n)) ∧ w = w' := by
  by_cases h1 : -9007199254740991 ≤ n <;> by_cases h2 : n ≤ 9007199254740991
  all_goals
    have HM : Hid (mayB n = (decide (-9007199254740991 ≤ n) && decide (n ≤ 9007199254740991))) := rfl
    simp only [h1, h2, decide_true, decide_false] at HM
    generalize mayB n = mb at *
    go_enter Tryd.func46, Tryd.ntmps46
    go_wp2_with fail
    go_ret
    exact ⟨by rw [HM.out]; rfl, rfl⟩

def gotR (r : Option (Int × Nat)) : Value := match r with
  | some (n, k) => .tuple #[.int .i64 n, .int .i64 (k : Int), .bool true]
  | none => .tuple #[.int .i64 0, .int .i64 0, .bool false]

theorem pow_49 {k : Nat} (h : k < 8) : 128 ^ k ≤ 562949953421312 := Nat.le_trans (Nat.pow_le_pow_right (by omega) (show k ≤ 7 by omega)) (by decide)
theorem mul_q (u : UInt8) (k : Nat) {q : Nat} (hq : q = 128 ^ k) (g : u.toNat % 128 * 128 ^ k < 72057594037927936) : wrap64 ((u.toNat : Int) % 128 * (q : Int)) = ((u.toNat % 128 * 128 ^ k : Nat) : Int) := by
  have e : (u.toNat : Int) % 128 * (q : Int) = ((u.toNat % 128 * 128 ^ k : Nat) : Int) := by rw [hq]; simp
  rw [e]
  exact IntWalk.wrap64_in _ (by omega)
theorem zag_form (z : Nat) : zag z = if z % 2 = 1 then -((z / 2 : Nat) : Int) - 1 else ((z / 2 : Nat) : Int) := rfl

set_option maxHeartbeats 2000000 in
theorem refGet_any (A : Option Addr) (n c : Nat) (l : List UInt8) (w : World) (hB : Bs w A n l) :
    Calls Tryd.prog 40 #[.slice A n c] w fun e w' => e = .returned (gotR (getL l)) ∧ w = w' := by
  have HL := Lib.hid hB.len
  go_enter Tryd.func40, Tryd.ntmps40
  go_wp2_with fail
  go_loop [5, 6, 7] (fun x b i => ∃ k y q : Nat, k ≤ n ∧ k ≤ 8 ∧ i = .int .i64 k ∧ x = .int .i64 (y : Int) ∧ b = .int .i64 (q : Int) ∧ y < 72057594037927936 ∧ q ≤ 72057594037927936 ∧ Hid (q = 128 ^ k ∧ y < 128 ^ k ∧ getL l = getGo k y (l.drop k))) (fun _ _ i => n - (intOf i).toNat)
  case atStart => exact ⟨0, 0, 1, Nat.zero_le _, by omega, rfl, rfl, rfl, by omega, by omega, by simp, by simp, rfl⟩
  case round =>
    obtain ⟨k, y, q, hk, hk8, rfl, rfl, rfl, hy56, hq56, HY⟩ := hrel
    by_cases hlt : k < n
    · by_cases hlt8 : k < 8
      · obtain ⟨u, b, off, rfl, hu, hb, hc, h256⟩ := hB.at hlt
        obtain ⟨HQ, HYb, HYr⟩ := HY.out
        obtain ⟨g1, g2, g3⟩ := get_bound (u := u.toNat) HYb hlt8
        have hq49 : q ≤ 562949953421312 := by rw [HQ]; exact pow_49 hlt8
        have HQ2 := Lib.hid (show q * 128 = 128 ^ (k + 1) by rw [HQ, Nat.pow_succ])
        have e3 := mul_q u k (q := q) HQ g2
        have HG := Lib.hid g1
        by_cases hu7 : 128 ≤ u.toNat
        · have HM := Lib.hid (get_more HYr hu.out hlt8 hu7)
          clear HY HYb HYr g1 HQ
          generalize u.toNat % 128 * 128 ^ k = p at *
          go_wp2_with fail
          go_round
          case rel => exact ⟨k + 1, y + p, q * 128, by omega, by omega, by go_num, by go_num, by go_num, g3, by omega, HQ2.out, HG.out, HM.out⟩
          case measure => simp [intOf]; omega
        · have HM := Lib.hid (get_last HYr hu.out hlt8 hu7)
          have ez := zag_form (y + u.toNat % 128 * 128 ^ k)
          clear HY HYb HYr g1 HQ
          generalize u.toNat % 128 * 128 ^ k = p at *
          by_cases hz0 : 0 < k ∧ u.toNat = 0
          · have d1 : 0 < k := hz0.1
            have d2 : ((u.toNat : Int) == 0) = true := by rw [beq_iff_eq]; omega
            have d3 : u.toNat = 0 := hz0.2
            rw [if_pos hz0] at HM
            clear hz0
            go_wp2_with fail
            go_ret3
            exact ⟨by rw [HM.out]; rfl, rfl⟩
          · rw [if_neg hz0] at HM
            have Hm := Lib.hid (fun W => refMay_any (zag (y + p)) W)
            have fin : ∀ r, gotR (if mayB (zag (y + p)) = true then some (zag (y + p), k + 1) else none) = r → gotR (getL l) = r := fun r h => by rw [HM.out]; exact h
            have FIN := Lib.hid fin
            clear fin HM
            by_cases hodd : (y + p) % 2 = 1
            · have o1 : (((y : Int) + p) % 2 == 1) = true := by rw [beq_iff_eq]; omega
              rw [if_pos hodd] at ez
              have HZ := Lib.hid ez
              clear ez hodd
              generalize zag (y + p) = zz at *
              have hzz : -(((y : Int) + p) / 2) - 1 = zz := by rw [HZ.out]; omega
              cases hm : mayB zz
              all_goals
                have HMB := Lib.hid hm
                clear hm
                rw [HMB.out] at Hm FIN
                by_cases hk0 : 0 < k
                all_goals
                  first
                    | (have d3 : ¬ u.toNat = 0 := by omega
                       have d2 : ((u.toNat : Int) == 0) = false := by rw [beq_eq_false_iff_ne]; omega)
                    | skip
                  clear hz0
                  go_wp2_with (go_at_call 46; refine (Hm.out _).mono ?_; rintro e w' ⟨rfl, rfl⟩)
                  go_ret3
                  exact ⟨by rw [FIN.out _ rfl]; rfl, rfl⟩
            · have o1 : (((y : Int) + p) % 2 == 1) = false := by rw [beq_eq_false_iff_ne]; omega
              rw [if_neg hodd] at ez
              have HZ := Lib.hid ez
              clear ez hodd
              generalize zag (y + p) = zz at *
              have hzz : (((y : Int) + p) / 2) = zz := by rw [HZ.out]; omega
              cases hm : mayB zz
              all_goals
                have HMB := Lib.hid hm
                clear hm
                rw [HMB.out] at Hm FIN
                by_cases hk0 : 0 < k
                all_goals
                  first
                    | (have d3 : ¬ u.toNat = 0 := by omega
                       have d2 : ((u.toNat : Int) == 0) = false := by rw [beq_eq_false_iff_ne]; omega)
                    | skip
                  clear hz0
                  go_wp2_with (go_at_call 46; refine (Hm.out _).mono ?_; rintro e w' ⟨rfl, rfl⟩)
                  go_ret3
                  exact ⟨by rw [FIN.out _ rfl]; rfl, rfl⟩
      · have HM : Hid (getL l = none) := get_end HY.out.2.2 (by omega)
        go_wp2_with fail
        go_ret3
        exact ⟨by rw [HM.out]; rfl, rfl⟩
    · have HM : Hid (getL l = none) := get_end HY.out.2.2 (by have := HL.out; omega)
      go_wp2_with fail
      go_ret3
      exact ⟨by rw [HM.out]; rfl, rfl⟩
end Go.Proofs.YtgklbejnbplbgaaDoor
