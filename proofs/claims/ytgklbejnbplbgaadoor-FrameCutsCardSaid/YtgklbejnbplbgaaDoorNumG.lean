/-
  num.may, num.Get: what each returns.
-/
import Derived.Test.YtgklbejnbplbgaaDoorNumA
import Derived.Test.YtgklbejnbplbgaaDoorNumP
namespace Go.Proofs.YtgklbejnbplbgaaDoor
open Go.RowKit Go.Nst
set_option maxRecDepth 100000

theorem may_any (n : Int) (w : World) : Calls Tryd.prog 44 #[.int .i64 n] w fun e w' => e = .returned (.bool (mayB n)) ∧ w = w' := by
  by_cases h1 : -9007199254740991 ≤ n <;> by_cases h2 : n ≤ 9007199254740991
  all_goals
    have HM : Hid (mayB n = (decide (-9007199254740991 ≤ n) && decide (n ≤ 9007199254740991))) := rfl
    simp only [h1, h2, decide_true, decide_false] at HM
    generalize mayB n = mb at *
    go_enter Tryd.func44, Tryd.ntmps44
    go_wp2_with fail
    go_ret
    exact ⟨by rw [HM.out]; rfl, rfl⟩
theorem may_yes (n : Int) (w : World) (h : mayB n = true) : Calls Tryd.prog 44 #[.int .i64 n] w fun e w' => e = .returned (.bool true) ∧ w = w' := by
  have := may_any n w
  rw [h] at this
  exact this
theorem may_not (n : Int) (w : World) (h : mayB n = false) : Calls Tryd.prog 44 #[.int .i64 n] w fun e w' => e = .returned (.bool false) ∧ w = w' := by
  have := may_any n w
  rw [h] at this
  exact this

theorem and127 (u : UInt8) : bits .and .u8 (u.toNat : Int) 127 = ((u.toNat % 128 : Nat) : Int) := by
  have := u8_and_nat u.toNat 127 (by have := u.toNat_lt; omega) (by omega)
  rw [nat_mask7] at this
  exact this
theorem pow7 (k : Nat) : (2 : Nat) ^ (7 * k) = 128 ^ k := by rw [Nat.pow_mul]
theorem shl7 (c k : Nat) (h : c * 128 ^ k < 72057594037927936) : IntKind.u64.wrap ((c : Int) * 2 ^ (7 * k)) = ((c * 128 ^ k : Nat) : Int) := by
  have e : ((c : Int) * 2 ^ (7 * k)) = ((c * 128 ^ k : Nat) : Int) := by rw [← pow7]; simp
  rw [e]
  generalize c * 128 ^ k = p at *
  simp [IntKind.wrap, IntKind.bits, IntKind.signed]
  omega
theorem or7 (y c k : Nat) (hy : y < 128 ^ k) (h : y + c * 128 ^ k < 72057594037927936) : bits .or .u64 (y : Int) ((c * 128 ^ k : Nat) : Int) = ((y + c * 128 ^ k : Nat) : Int) := by
  rw [u64_or_nat y (c * 128 ^ k) (by omega) (by omega), Nat.or_comm, nat_join (7 * k) (c * 128 ^ k) y (by rw [pow7]; simp) (by rw [pow7]; exact hy), Nat.add_comm]
theorem and1_u64 (z : Nat) (h : z < 18446744073709551616) : bits .and .u64 (z : Int) 1 = ((z % 2 : Nat) : Int) := by
  have := u64_and_nat z 1 h (by omega)
  rw [nat_mask1] at this
  exact this
theorem ofInt_neg1 : BitVec.ofInt 64 (-1) = BitVec.allOnes 64 := by decide
theorem xor_neg1 (a : Nat) (h : a < 9223372036854775808) : bits .xor .i64 (a : Int) (-1) = -(a : Int) - 1 := by
  show IntKind.i64.wrap ((BitVec.ofInt 64 (a : Int) ^^^ BitVec.ofInt 64 (-1)).toNat : Int) = _
  rw [ofInt_neg1, BitVec.xor_allOnes, BitVec.toNat_not, BitVec.ofInt_natCast, BitVec.toNat_ofNat, Nat.mod_eq_of_lt (by omega), IntKind.wrap_i64]
  omega
theorem xor_zero64 (a : Nat) (h : a < 9223372036854775808) : bits .xor .i64 (a : Int) 0 = (a : Int) := by
  show IntKind.i64.wrap ((BitVec.ofInt 64 (a : Int) ^^^ BitVec.ofInt 64 0).toNat : Int) = _
  rw [show BitVec.ofInt 64 0 = 0#64 by decide, BitVec.xor_zero, BitVec.ofInt_natCast, BitVec.toNat_ofNat, Nat.mod_eq_of_lt (by omega), IntKind.wrap_i64]
  omega
theorem zag_bits (z : Nat) (h : z < 72057594037927936) : bits .xor .i64 ((z : Int) / 2) (-((z : Int) % 2)) = zag z := by
  unfold zag
  have e : (z : Int) / 2 = ((z / 2 : Nat) : Int) := by omega
  by_cases h1 : z % 2 = 1
  · have e2 : (z : Int) % 2 = 1 := by omega
    rw [if_pos h1, e, e2, xor_neg1 _ (by omega)]
  · have e2 : (z : Int) % 2 = 0 := by omega
    rw [if_neg h1, e, e2]
    exact xor_zero64 _ (by omega)

/-- what is handed back of a number that is got -/
def gotV (r : Option (Int × Nat)) : Value := match r with
  | some (n, k) => .tuple #[.int .i64 n, .int .i64 (k : Int), .int .i64 0]
  | none => .tuple #[.int .i64 0, .int .i64 0, .int .i64 10]

set_option maxHeartbeats 2000000 in
theorem get_any (A : Option Addr) (n c : Nat) (l : List UInt8) (w : World) (hn : n ≤ 9223372036854775807) (hnc : n ≤ c) (hB : Bs w A n l) :
    Calls Tryd.prog 37 #[.slice A n c] w fun e w' => e = .returned (gotV (getL l)) ∧ w = w' := by
  have HL := Lib.hid hB.len
  by_cases h8 : n ≤ 8
  · have hmn : min (n : Int) 8 = n := by omega
    go_enter Tryd.func37, Tryd.ntmps37
    go_wp2_with fail
    go_loop [5, 15] (fun x i => ∃ k y : Nat, k ≤ n ∧ i = .int .i64 k ∧ x = .int .u64 (y : Int) ∧ y < 72057594037927936 ∧ Hid (y < 128 ^ k ∧ getL l = getGo k y (l.drop k))) (fun _ i => n - (intOf i).toNat)
    case atStart => exact ⟨0, 0, Nat.zero_le _, rfl, rfl, by omega, by simp, rfl⟩
    case round =>
      obtain ⟨k, y, hk, rfl, rfl, hy56, HY⟩ := hrel
      by_cases hlt : k < n
      · obtain ⟨u, b, off, rfl, hu, hb, hc, h256⟩ := hB.at (show k < n by omega)
        have hk8 : k < 8 := by omega
        obtain ⟨HYb, HYr⟩ := HY.out
        obtain ⟨g1, g2, g3⟩ := get_bound (u := u.toNat) HYb hk8
        have e1 := and127 u
        have hc7 : u.toNat % 128 < 128 := by omega
        have e3 := shl7 (u.toNat % 128) k g2
        have e4 := or7 y (u.toNat % 128) k HYb g3
        have e5 := and1_u64 (y + u.toNat % 128 * 128 ^ k) (by omega)
        have e6 := zag_bits (y + u.toNat % 128 * 128 ^ k) g3
        have HG := Lib.hid g1
        by_cases hu7 : 128 ≤ u.toNat
        · have HM := Lib.hid (get_more HYr hu.out hk8 hu7)
          clear HY HYb HYr g1 e5 e6
          generalize u.toNat % 128 * 128 ^ k = p at *
          generalize u.toNat % 128 = c7 at *
          generalize y + p = z at *
          go_wp2_with fail
          go_round
          case rel => exact ⟨k + 1, z, by omega, by go_num, rfl, g3, HG.out, HM.out⟩
          case measure => simp [intOf]; omega
        · have HM := Lib.hid (get_last HYr hu.out hk8 hu7)
          clear HY HYb HYr g1
          generalize u.toNat % 128 * 128 ^ k = p at *
          generalize u.toNat % 128 = c7 at *
          generalize y + p = z at *
          by_cases hz0 : 0 < k ∧ u.toNat = 0
          · have d1 : 0 < k := hz0.1
            have d2 : ((u.toNat : Int) == 0) = true := by rw [beq_iff_eq]; omega
            have d3 : u.toNat = 0 := hz0.2
            rw [if_pos hz0] at HM
            clear hz0
            go_wp2_with fail
            go_ret3
            exact ⟨by rw [HM.out]; rfl, rfl⟩
          · rw [if_neg hz0] at HM
            by_cases hm : mayB (zag z) = true
            · rw [if_pos hm] at HM
              have Hm := Lib.hid (fun W => may_yes (zag z) W hm)
              by_cases hk0 : 0 < k
              · have d2 : ((u.toNat : Int) == 0) = false := by rw [beq_eq_false_iff_ne]; omega
                have d3 : ¬ u.toNat = 0 := by omega
                clear hz0 hm
                go_wp2_with (go_at_call 44; refine (Hm.out _).mono ?_; rintro e w' ⟨rfl, rfl⟩)
                go_ret3
                exact ⟨by rw [HM.out]; rfl, rfl⟩
              · clear hz0 hm
                go_wp2_with (go_at_call 44; refine (Hm.out _).mono ?_; rintro e w' ⟨rfl, rfl⟩)
                go_ret3
                exact ⟨by rw [HM.out]; rfl, rfl⟩
            · rw [if_neg hm] at HM
              have Hm := Lib.hid (fun W => may_not (zag z) W (by simpa using hm))
              by_cases hk0 : 0 < k
              · have d2 : ((u.toNat : Int) == 0) = false := by rw [beq_eq_false_iff_ne]; omega
                have d3 : ¬ u.toNat = 0 := by omega
                clear hz0 hm
                go_wp2_with (go_at_call 44; refine (Hm.out _).mono ?_; rintro e w' ⟨rfl, rfl⟩)
                go_ret3
                exact ⟨by rw [HM.out]; rfl, rfl⟩
              · clear hz0 hm
                go_wp2_with (go_at_call 44; refine (Hm.out _).mono ?_; rintro e w' ⟨rfl, rfl⟩)
                go_ret3
                exact ⟨by rw [HM.out]; rfl, rfl⟩
      · have HM : Hid (getL l = none) := get_end HY.out.2 (by have := HL.out; omega)
        go_wp2_with fail
        go_ret3
        exact ⟨by rw [HM.out]; rfl, rfl⟩
  · have hmn : min (n : Int) 8 = 8 := by omega
    have b8 : (8 : Int) ≤ (c : Int) := by omega
    go_enter Tryd.func37, Tryd.ntmps37
    go_wp2_with fail
    go_loop [5, 15] (fun x i => ∃ k y : Nat, k ≤ 8 ∧ i = .int .i64 k ∧ x = .int .u64 (y : Int) ∧ y < 72057594037927936 ∧ Hid (y < 128 ^ k ∧ getL l = getGo k y (l.drop k))) (fun _ i => 8 - (intOf i).toNat)
    case atStart => exact ⟨0, 0, Nat.zero_le _, rfl, rfl, by omega, by simp, rfl⟩
    case round =>
      obtain ⟨k, y, hk, rfl, rfl, hy56, HY⟩ := hrel
      by_cases hlt : k < 8
      · obtain ⟨u, b, off, rfl, hu, hb, hc, h256⟩ := hB.at (show k < n by omega)
        have hk8 : k < 8 := by omega
        obtain ⟨HYb, HYr⟩ := HY.out
        obtain ⟨g1, g2, g3⟩ := get_bound (u := u.toNat) HYb hk8
        have e1 := and127 u
        have hc7 : u.toNat % 128 < 128 := by omega
        have e3 := shl7 (u.toNat % 128) k g2
        have e4 := or7 y (u.toNat % 128) k HYb g3
        have e5 := and1_u64 (y + u.toNat % 128 * 128 ^ k) (by omega)
        have e6 := zag_bits (y + u.toNat % 128 * 128 ^ k) g3
        have HG := Lib.hid g1
        by_cases hu7 : 128 ≤ u.toNat
        · have HM := Lib.hid (get_more HYr hu.out hk8 hu7)
          clear HY HYb HYr g1 e5 e6
          generalize u.toNat % 128 * 128 ^ k = p at *
          generalize u.toNat % 128 = c7 at *
          generalize y + p = z at *
          go_wp2_with fail
          go_round
          case rel => exact ⟨k + 1, z, by omega, by go_num, rfl, g3, HG.out, HM.out⟩
          case measure => simp [intOf]; omega
        · have HM := Lib.hid (get_last HYr hu.out hk8 hu7)
          clear HY HYb HYr g1
          generalize u.toNat % 128 * 128 ^ k = p at *
          generalize u.toNat % 128 = c7 at *
          generalize y + p = z at *
          by_cases hz0 : 0 < k ∧ u.toNat = 0
          · have d1 : 0 < k := hz0.1
            have d2 : ((u.toNat : Int) == 0) = true := by rw [beq_iff_eq]; omega
            have d3 : u.toNat = 0 := hz0.2
            rw [if_pos hz0] at HM
            clear hz0
            go_wp2_with fail
            go_ret3
            exact ⟨by rw [HM.out]; rfl, rfl⟩
          · rw [if_neg hz0] at HM
            by_cases hm : mayB (zag z) = true
            · rw [if_pos hm] at HM
              have Hm := Lib.hid (fun W => may_yes (zag z) W hm)
              by_cases hk0 : 0 < k
              · have d2 : ((u.toNat : Int) == 0) = false := by rw [beq_eq_false_iff_ne]; omega
                have d3 : ¬ u.toNat = 0 := by omega
                clear hz0 hm
                go_wp2_with (go_at_call 44; refine (Hm.out _).mono ?_; rintro e w' ⟨rfl, rfl⟩)
                go_ret3
                exact ⟨by rw [HM.out]; rfl, rfl⟩
              · clear hz0 hm
                go_wp2_with (go_at_call 44; refine (Hm.out _).mono ?_; rintro e w' ⟨rfl, rfl⟩)
                go_ret3
                exact ⟨by rw [HM.out]; rfl, rfl⟩
            · rw [if_neg hm] at HM
              have Hm := Lib.hid (fun W => may_not (zag z) W (by simpa using hm))
              by_cases hk0 : 0 < k
              · have d2 : ((u.toNat : Int) == 0) = false := by rw [beq_eq_false_iff_ne]; omega
                have d3 : ¬ u.toNat = 0 := by omega
                clear hz0 hm
                go_wp2_with (go_at_call 44; refine (Hm.out _).mono ?_; rintro e w' ⟨rfl, rfl⟩)
                go_ret3
                exact ⟨by rw [HM.out]; rfl, rfl⟩
              · clear hz0 hm
                go_wp2_with (go_at_call 44; refine (Hm.out _).mono ?_; rintro e w' ⟨rfl, rfl⟩)
                go_ret3
                exact ⟨by rw [HM.out]; rfl, rfl⟩
      · have HM : Hid (getL l = none) := get_end HY.out.2 (by have := HL.out; omega)
        go_wp2_with fail
        go_ret3
        exact ⟨by rw [HM.out]; rfl, rfl⟩
end Go.Proofs.YtgklbejnbplbgaaDoor
