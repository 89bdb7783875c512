/-
  Words, clones and the reader of bytes.
  num.may, num.Get: what each returns.
  num.Put and the reference's.
  The reference's Put, num.Text and the reference's Text.
  The reference's Get, May.
-/
import Derived.Test.YtfepinnfhcjopaaGreatDoorRows
import Derived.Test.YtfepinnfhcjopaaGreatDoorBas
import Derived.Test.YtfepinnfhcjopaaGreatDoorPla
section
namespace Go.Proofs.YtfepinnfhcjopaaGreatDoor
open Go.RowKit Go.Nst
set_option maxRecDepth 100000

theorem iBytes : Info Tryz.prog 22 5 (.int .u8 0) 1 1 := Info.mk_ Tryz.underlying22 (by kernel_rfl) rfl (by omega)

/-- a word's bytes -/
def wordL (s : Nat) : List UInt8 := [UInt8.ofNat (s % 256), UInt8.ofNat (s / 256 % 256), UInt8.ofNat (s / 65536 % 256), UInt8.ofNat (s / 16777216 % 256)]
theorem wordL_cells (s : Nat) (hs : s < 4294967296) : [Value.int .u8 ((s : Int) % 256), .int .u8 ((s : Int) / 256 % 256), .int .u8 ((s : Int) / 65536 % 256), .int .u8 ((s : Int) / 16777216)] = bv (wordL s) := by
  have h : s / 16777216 % 256 = s / 16777216 := by omega
  simp [bv, wordL, h]

theorem word_any (s : Nat) (hs : s < 4294967296) (w : World) :
    Calls Tryz.prog 76 #[.int .u32 s] w (RetB w (wordL s)) := by
  have HC := Lib.hid (wordL_cells s hs)
  go_enter Tryz.func76, Tryz.ntmps76
  go_wp2_with fail
  try go_ret
  exact RetB.of rfl (lit_made w (wordL s) _ HC.out (by simp [wordL])) ((Below.refl _ _).alloc (Nat.le_refl _) _)
theorem refWord_any (s : Nat) (hs : s < 4294967296) (w : World) :
    Calls Tryz.prog 57 #[.int .u32 s] w (RetB w (wordL s)) := by
  have HC := Lib.hid (wordL_cells s hs)
  go_enter Tryz.func57, Tryz.ntmps57
  go_wp2_with fail
  try go_ret
  exact RetB.of rfl (lit_made w (wordL s) _ HC.out (by simp [wordL])) ((Below.refl _ _).alloc (Nat.le_refl _) _)

theorem bs_none {w : World} {n : Nat} {l : List UInt8} (h : Bs w none n l) : n = 0 ∧ l = [] := by
  have hl := h.len
  rcases Nat.eq_zero_or_pos n with h0 | h0
  · exact ⟨h0, List.eq_nil_of_length_eq_zero (by omega)⟩
  · obtain ⟨_, _, _, e, _⟩ := h.at h0
    cases e

theorem clone_any (A : Option Addr) (n c : Nat) (l : List UInt8) (w : World) (hn : n ≤ 140737488355328) (hB : Bs w A n l) :
    Calls Tryz.prog 66 #[.slice A n c] w (RetB w l) := by
  cases A with
  | none =>
    obtain ⟨rfl, rfl⟩ := bs_none hB
    have he := fun W => Lib.run_eql_slice_nil (P := Tryz.prog) W 22 5 none 0 c 0 0 Tryz.underlying22
    go_enter Tryz.func66, Tryz.ntmps66
    go_wp2_with fail
    try go_ret
    exact RetB.of rfl Ow.nil (Below.refl _ _)
  | some ad =>
    have he := fun W => Lib.run_eql_slice_nil (P := Tryz.prog) W 22 5 (some ad) n c 0 0 Tryz.underlying22
    simp only [Option.isNone_some] at he
    have HO := Lib.hid (Ow.made w [] #[] rfl (by simp [maxLen]) (Nat.le_refl _))
    have HB := Lib.hid (hB.alloc (.cells #[] 5))
    go_enter Tryz.func66, Tryz.ntmps66
    go_wp2_with (at_builtin; refine wpList_appB _ iBytes rfl rfl rfl HO.out rfl HB.out (by simp; omega) (by simp) ?_; intro A' c' w' ho hb _ _; simp only [Nat.zero_add, List.nil_append] at ho)
    try go_ret
    refine RetB.of rfl ho ?_
    exact ((Below.refl _ _).alloc (Nat.le_refl _) _).trans hb
end Go.Proofs.YtfepinnfhcjopaaGreatDoor
end
section
namespace Go.Proofs.YtfepinnfhcjopaaGreatDoor
open Go.RowKit Go.Nst
set_option maxRecDepth 100000

theorem may_any (n : Int) (w : World) : Calls Tryz.prog 60 #[.int .i64 n] w fun e w' => e = .returned (.bool (mayB n)) ∧ w = w' := by
  by_cases h1 : -9007199254740991 ≤ n <;> by_cases h2 : n ≤ 9007199254740991
  all_goals
    have HM : Hid (mayB n = (decide (-9007199254740991 ≤ n) && decide (n ≤ 9007199254740991))) := rfl
    simp only [h1, h2, decide_true, decide_false] at HM
    generalize mayB n = mb at *
    go_enter Tryz.func60, Tryz.ntmps60
    go_wp2_with fail
    go_ret
    exact ⟨by rw [HM.out]; rfl, rfl⟩
theorem may_yes (n : Int) (w : World) (h : mayB n = true) : Calls Tryz.prog 60 #[.int .i64 n] w fun e w' => e = .returned (.bool true) ∧ w = w' := by
  have := may_any n w
  rw [h] at this
  exact this
theorem may_not (n : Int) (w : World) (h : mayB n = false) : Calls Tryz.prog 60 #[.int .i64 n] w fun e w' => e = .returned (.bool false) ∧ w = w' := by
  have := may_any n w
  rw [h] at this
  exact this

theorem and127 (u : UInt8) : bits .and .u8 (u.toNat : Int) 127 = ((u.toNat % 128 : Nat) : Int) := by
  have := u8_and_nat u.toNat 127 (by have := u.toNat_lt; omega) (by omega)
  rw [nat_mask7] at this
  exact this
theorem pow7 (k : Nat) : (2 : Nat) ^ (7 * k) = 128 ^ k := by rw [Nat.pow_mul]
theorem shl7 (c k : Nat) (h : c * 128 ^ k < 72057594037927936) : IntKind.u64.wrap ((c : Int) * 2 ^ (7 * k)) = ((c * 128 ^ k : Nat) : Int) := by
  have e : ((c : Int) * 2 ^ (7 * k)) = ((c * 128 ^ k : Nat) : Int) := by rw [← pow7]; simp
  rw [e]
  generalize c * 128 ^ k = p at *
  simp [IntKind.wrap, IntKind.bits, IntKind.signed]
  omega
theorem or7 (y c k : Nat) (hy : y < 128 ^ k) (h : y + c * 128 ^ k < 72057594037927936) : bits .or .u64 (y : Int) ((c * 128 ^ k : Nat) : Int) = ((y + c * 128 ^ k : Nat) : Int) := by
  rw [u64_or_nat y (c * 128 ^ k) (by omega) (by omega), Nat.or_comm, nat_join (7 * k) (c * 128 ^ k) y (by rw [pow7]; simp) (by rw [pow7]; exact hy), Nat.add_comm]
theorem and1_u64 (z : Nat) (h : z < 18446744073709551616) : bits .and .u64 (z : Int) 1 = ((z % 2 : Nat) : Int) := by
  have := u64_and_nat z 1 h (by omega)
  rw [nat_mask1] at this
  exact this
theorem ofInt_neg1 : BitVec.ofInt 64 (-1) = BitVec.allOnes 64 := by decide
theorem xor_neg1 (a : Nat) (h : a < 9223372036854775808) : bits .xor .i64 (a : Int) (-1) = -(a : Int) - 1 := by
  show IntKind.i64.wrap ((BitVec.ofInt 64 (a : Int) ^^^ BitVec.ofInt 64 (-1)).toNat : Int) = _
  rw [ofInt_neg1, BitVec.xor_allOnes, BitVec.toNat_not, BitVec.ofInt_natCast, BitVec.toNat_ofNat, Nat.mod_eq_of_lt (by omega), IntKind.wrap_i64]
  omega
theorem xor_zero64 (a : Nat) (h : a < 9223372036854775808) : bits .xor .i64 (a : Int) 0 = (a : Int) := by
  show IntKind.i64.wrap ((BitVec.ofInt 64 (a : Int) ^^^ BitVec.ofInt 64 0).toNat : Int) = _
  rw [show BitVec.ofInt 64 0 = 0#64 by decide, BitVec.xor_zero, BitVec.ofInt_natCast, BitVec.toNat_ofNat, Nat.mod_eq_of_lt (by omega), IntKind.wrap_i64]
  omega
theorem zag_bits (z : Nat) (h : z < 72057594037927936) : bits .xor .i64 ((z : Int) / 2) (-((z : Int) % 2)) = zag z := by
  unfold zag
  have e : (z : Int) / 2 = ((z / 2 : Nat) : Int) := by omega
  by_cases h1 : z % 2 = 1
  · have e2 : (z : Int) % 2 = 1 := by omega
    rw [if_pos h1, e, e2, xor_neg1 _ (by omega)]
  · have e2 : (z : Int) % 2 = 0 := by omega
    rw [if_neg h1, e, e2]
    exact xor_zero64 _ (by omega)

/-- what is handed back of a number that is got -/
def gotV (r : Option (Int × Nat)) : Value := match r with
  | some (n, k) => .tuple #[.int .i64 n, .int .i64 (k : Int), .int .i64 0]
  | none => .tuple #[.int .i64 0, .int .i64 0, .int .i64 10]

set_option maxHeartbeats 2000000 in
theorem get_any (A : Option Addr) (n c : Nat) (l : List UInt8) (w : World) (hn : n ≤ 9223372036854775807) (hnc : n ≤ c) (hB : Bs w A n l) :
    Calls Tryz.prog 48 #[.slice A n c] w fun e w' => e = .returned (gotV (getL l)) ∧ w = w' := by
  have HL := Lib.hid hB.len
  by_cases h8 : n ≤ 8
  · have hmn : min (n : Int) 8 = n := by omega
    go_enter Tryz.func48, Tryz.ntmps48
    go_wp2_with fail
    go_loop [5, 15] (fun x i => ∃ k y : Nat, k ≤ n ∧ i = .int .i64 k ∧ x = .int .u64 (y : Int) ∧ y < 72057594037927936 ∧ Hid (y < 128 ^ k ∧ getL l = getGo k y (l.drop k))) (fun _ i => n - (intOf i).toNat)
    case atStart => exact ⟨0, 0, Nat.zero_le _, rfl, rfl, by omega, by simp, rfl⟩
    case round =>
      obtain ⟨k, y, hk, rfl, rfl, hy56, HY⟩ := hrel
      by_cases hlt : k < n
      · obtain ⟨u, b, off, rfl, hu, hb, hc, h256⟩ := hB.at (show k < n by omega)
        have hk8 : k < 8 := by omega
        obtain ⟨HYb, HYr⟩ := HY.out
        obtain ⟨g1, g2, g3⟩ := get_bound (u := u.toNat) HYb hk8
        have e1 := and127 u
        have hc7 : u.toNat % 128 < 128 := by omega
        have e3 := shl7 (u.toNat % 128) k g2
        have e4 := or7 y (u.toNat % 128) k HYb g3
        have e5 := and1_u64 (y + u.toNat % 128 * 128 ^ k) (by omega)
        have e6 := zag_bits (y + u.toNat % 128 * 128 ^ k) g3
        have HG := Lib.hid g1
        by_cases hu7 : 128 ≤ u.toNat
        · have HM := Lib.hid (get_more HYr hu.out hk8 hu7)
          clear HY HYb HYr g1 e5 e6
          generalize u.toNat % 128 * 128 ^ k = p at *
          generalize u.toNat % 128 = c7 at *
          generalize y + p = z at *
          go_wp2_with fail
          go_round
          case rel => exact ⟨k + 1, z, by omega, by go_num, rfl, g3, HG.out, HM.out⟩
          case measure => simp [intOf]; omega
        · have HM := Lib.hid (get_last HYr hu.out hk8 hu7)
          clear HY HYb HYr g1
          generalize u.toNat % 128 * 128 ^ k = p at *
          generalize u.toNat % 128 = c7 at *
          generalize y + p = z at *
          by_cases hz0 : 0 < k ∧ u.toNat = 0
          · have d1 : 0 < k := hz0.1
            have d2 : ((u.toNat : Int) == 0) = true := by rw [beq_iff_eq]; omega
            have d3 : u.toNat = 0 := hz0.2
            rw [if_pos hz0] at HM
            clear hz0
            go_wp2_with fail
            go_ret3
            exact ⟨by rw [HM.out]; rfl, rfl⟩
          · rw [if_neg hz0] at HM
            by_cases hm : mayB (zag z) = true
            · rw [if_pos hm] at HM
              have Hm := Lib.hid (fun W => may_yes (zag z) W hm)
              by_cases hk0 : 0 < k
              · have d2 : ((u.toNat : Int) == 0) = false := by rw [beq_eq_false_iff_ne]; omega
                have d3 : ¬ u.toNat = 0 := by omega
                clear hz0 hm
                go_wp2_with (go_at_call 60; refine (Hm.out _).mono ?_; rintro e w' ⟨rfl, rfl⟩)
                go_ret3
                exact ⟨by rw [HM.out]; rfl, rfl⟩
              · clear hz0 hm
                go_wp2_with (go_at_call 60; refine (Hm.out _).mono ?_; rintro e w' ⟨rfl, rfl⟩)
                go_ret3
                exact ⟨by rw [HM.out]; rfl, rfl⟩
            · rw [if_neg hm] at HM
              have Hm := Lib.hid (fun W => may_not (zag z) W (by simpa using hm))
              by_cases hk0 : 0 < k
              · have d2 : ((u.toNat : Int) == 0) = false := by rw [beq_eq_false_iff_ne]; omega
                have d3 : ¬ u.toNat = 0 := by omega
                clear hz0 hm
                go_wp2_with (go_at_call 60; refine (Hm.out _).mono ?_; rintro e w' ⟨rfl, rfl⟩)
                go_ret3
                exact ⟨by rw [HM.out]; rfl, rfl⟩
              · clear hz0 hm
                go_wp2_with (go_at_call 60; refine (Hm.out _).mono ?_; rintro e w' ⟨rfl, rfl⟩)
                go_ret3
                exact ⟨by rw [HM.out]; rfl, rfl⟩
      · have HM : Hid (getL l = none) := get_end HY.out.2 (by have := HL.out; omega)
        go_wp2_with fail
        go_ret3
        exact ⟨by rw [HM.out]; rfl, rfl⟩
  · have hmn : min (n : Int) 8 = 8 := by omega
    have b8 : (8 : Int) ≤ (c : Int) := by omega
    go_enter Tryz.func48, Tryz.ntmps48
    go_wp2_with fail
    go_loop [5, 15] (fun x i => ∃ k y : Nat, k ≤ 8 ∧ i = .int .i64 k ∧ x = .int .u64 (y : Int) ∧ y < 72057594037927936 ∧ Hid (y < 128 ^ k ∧ getL l = getGo k y (l.drop k))) (fun _ i => 8 - (intOf i).toNat)
    case atStart => exact ⟨0, 0, Nat.zero_le _, rfl, rfl, by omega, by simp, rfl⟩
    case round =>
      obtain ⟨k, y, hk, rfl, rfl, hy56, HY⟩ := hrel
      by_cases hlt : k < 8
      · obtain ⟨u, b, off, rfl, hu, hb, hc, h256⟩ := hB.at (show k < n by omega)
        have hk8 : k < 8 := by omega
        obtain ⟨HYb, HYr⟩ := HY.out
        obtain ⟨g1, g2, g3⟩ := get_bound (u := u.toNat) HYb hk8
        have e1 := and127 u
        have hc7 : u.toNat % 128 < 128 := by omega
        have e3 := shl7 (u.toNat % 128) k g2
        have e4 := or7 y (u.toNat % 128) k HYb g3
        have e5 := and1_u64 (y + u.toNat % 128 * 128 ^ k) (by omega)
        have e6 := zag_bits (y + u.toNat % 128 * 128 ^ k) g3
        have HG := Lib.hid g1
        by_cases hu7 : 128 ≤ u.toNat
        · have HM := Lib.hid (get_more HYr hu.out hk8 hu7)
          clear HY HYb HYr g1 e5 e6
          generalize u.toNat % 128 * 128 ^ k = p at *
          generalize u.toNat % 128 = c7 at *
          generalize y + p = z at *
          go_wp2_with fail
          go_round
          case rel => exact ⟨k + 1, z, by omega, by go_num, rfl, g3, HG.out, HM.out⟩
          case measure => simp [intOf]; omega
        · have HM := Lib.hid (get_last HYr hu.out hk8 hu7)
          clear HY HYb HYr g1
          generalize u.toNat % 128 * 128 ^ k = p at *
          generalize u.toNat % 128 = c7 at *
          generalize y + p = z at *
          by_cases hz0 : 0 < k ∧ u.toNat = 0
          · have d1 : 0 < k := hz0.1
            have d2 : ((u.toNat : Int) == 0) = true := by rw [beq_iff_eq]; omega
            have d3 : u.toNat = 0 := hz0.2
            rw [if_pos hz0] at HM
            clear hz0
            go_wp2_with fail
            go_ret3
            exact ⟨by rw [HM.out]; rfl, rfl⟩
          · rw [if_neg hz0] at HM
            by_cases hm : mayB (zag z) = true
            · rw [if_pos hm] at HM
              have Hm := Lib.hid (fun W => may_yes (zag z) W hm)
              by_cases hk0 : 0 < k
              · have d2 : ((u.toNat : Int) == 0) = false := by rw [beq_eq_false_iff_ne]; omega
                have d3 : ¬ u.toNat = 0 := by omega
                clear hz0 hm
                go_wp2_with (go_at_call 60; refine (Hm.out _).mono ?_; rintro e w' ⟨rfl, rfl⟩)
                go_ret3
                exact ⟨by rw [HM.out]; rfl, rfl⟩
              · clear hz0 hm
                go_wp2_with (go_at_call 60; refine (Hm.out _).mono ?_; rintro e w' ⟨rfl, rfl⟩)
                go_ret3
                exact ⟨by rw [HM.out]; rfl, rfl⟩
            · rw [if_neg hm] at HM
              have Hm := Lib.hid (fun W => may_not (zag z) W (by simpa using hm))
              by_cases hk0 : 0 < k
              · have d2 : ((u.toNat : Int) == 0) = false := by rw [beq_eq_false_iff_ne]; omega
                have d3 : ¬ u.toNat = 0 := by omega
                clear hz0 hm
                go_wp2_with (go_at_call 60; refine (Hm.out _).mono ?_; rintro e w' ⟨rfl, rfl⟩)
                go_ret3
                exact ⟨by rw [HM.out]; rfl, rfl⟩
              · clear hz0 hm
                go_wp2_with (go_at_call 60; refine (Hm.out _).mono ?_; rintro e w' ⟨rfl, rfl⟩)
                go_ret3
                exact ⟨by rw [HM.out]; rfl, rfl⟩
      · have HM : Hid (getL l = none) := get_end HY.out.2 (by have := HL.out; omega)
        go_wp2_with fail
        go_ret3
        exact ⟨by rw [HM.out]; rfl, rfl⟩
end Go.Proofs.YtfepinnfhcjopaaGreatDoor
end
section
namespace Go.Proofs.YtfepinnfhcjopaaGreatDoor
open Go.RowKit Go.Nst
set_option maxRecDepth 100000
set_option linter.unusedVariables false

theorem ofInt_nat64 (a : Nat) (h : a < 18446744073709551616) : (BitVec.ofInt 64 (a : Int)).toNat = a := by
  rw [BitVec.ofInt_natCast, BitVec.toNat_ofNat]; exact Nat.mod_eq_of_lt (by omega)
theorem zig_pos (n : Int) (h0 : 0 ≤ n) (h2 : n ≤ 9007199254740991) : bits .xor .u64 (n * 2) (n / 9223372036854775808) = ((zig n : Nat) : Int) := by
  obtain ⟨a, rfl⟩ := Int.eq_ofNat_of_zero_le h0
  have e1 : (a : Int) / 9223372036854775808 = ((0 : Nat) : Int) := by omega
  have e2 : (a : Int) * 2 = ((2 * a : Nat) : Int) := by omega
  have e3 : zig (a : Int) = 2 * a := by unfold zig; rw [if_pos h0]; omega
  rw [e1, e2, e3, u64_xor_nat _ _ (by omega) (by omega), Nat.xor_zero]
theorem zig_neg (n : Int) (h0 : n < 0) (h2 : -9007199254740991 ≤ n) : bits .xor .u64 (IntKind.u64.wrap (n * 2)) (IntKind.u64.wrap (n / 9223372036854775808)) = ((zig n : Nat) : Int) := by
  have e1 : IntKind.u64.wrap (n / 9223372036854775808) = ((18446744073709551615 : Nat) : Int) := by
    simp [IntKind.wrap, IntKind.bits, IntKind.signed]; omega
  have e2 : IntKind.u64.wrap (n * 2) = (((n * 2 + 18446744073709551616).toNat : Nat) : Int) := by
    simp [IntKind.wrap, IntKind.bits, IntKind.signed]; omega
  have e3 : zig n = (-2 * n - 1).toNat := by unfold zig; rw [if_neg (by omega)]
  rw [e1, e2, e3]
  obtain ⟨a, ha⟩ : ∃ a : Nat, (n * 2 + 18446744073709551616).toNat = a := ⟨_, rfl⟩
  rw [ha]
  have hx : a ^^^ 18446744073709551615 = 18446744073709551615 - a := by
    have h1 : a < 18446744073709551616 := by omega
    have := BitVec.toNat_not (x := BitVec.ofNat 64 a)
    rw [← BitVec.xor_allOnes, BitVec.toNat_xor, BitVec.toNat_ofNat, Nat.mod_eq_of_lt (by omega)] at this
    simpa using this
  rw [u64_xor_nat _ _ (by omega) (by omega), hx]
  omega
theorem or128 (x : Nat) : bits .or .u8 ((x : Int) % 256) 128 = ((UInt8.ofNat (x % 128 + 128)).toNat : Int) := by
  have e : (x : Int) % 256 = ((x % 256 : Nat) : Int) := by omega
  rw [e, u8_of (x % 128 + 128) (by omega)]
  have := u8_or_nat (x % 256) 128 (by omega) (by omega)
  rw [show ((128 : Nat) : Int) = 128 from rfl] at this
  rw [this]
  congr 1
  by_cases h : x % 256 < 128
  · rw [Nat.or_comm, nat_join 7 128 (x % 256) (by decide) h]; omega
  · have e2 : x % 256 = 128 + x % 128 := by omega
    rw [e2]
    have e3 : 128 + x % 128 = 128 ||| x % 128 := (nat_join 7 128 (x % 128) (by decide) (by omega)).symm
    rw [e3, Nat.or_comm (128 ||| x % 128) 128, ← Nat.or_assoc, Nat.or_self, ← e3]
    omega
theorem low_byte (x : Nat) (h : x < 128) : ((x : Int)) = ((UInt8.ofNat x).toNat : Int) := by rw [u8_of x (by omega)]

/-- bytes of its own, and an error -/
def RetBE (w : World) (l : List UInt8) (err : Int) (e : Ending) (w' : World) : Prop := ∃ A n c, e = .returned (.tuple #[.slice A n c, .int .i64 err]) ∧ Ow w' w.heap.size A n c l ∧ Below w.heap.size w w'

theorem put_no (n : Int) (w : World) (h : mayB n = false) : Calls Tryz.prog 38 #[.int .i64 n] w fun e w' => e = .returned (.tuple #[.slice none 0 0, .int .i64 10]) ∧ w = w' := by
  have Hm := Lib.hid (may_not n w h)
  clear h
  go_enter Tryz.func38, Tryz.ntmps38
  go_wp2_with fail
  refine Hm.out.mono ?_
  rintro e w' ⟨rfl, rfl⟩
  go_wp2_with fail
  go_ret2
  exact ⟨rfl, rfl⟩

set_option maxHeartbeats 1000000 in
theorem put_yes (n : Int) (w : World) (hm : mayB n = true) : Calls Tryz.prog 38 #[.int .i64 n] w (RetBE w (putL (zig n)) 0) := by
  have Hm := Lib.hid (may_yes n w hm)
  have hzl := zig_lt hm
  rw [mayB_iff] at hm
  obtain ⟨h1, h2⟩ := hm
  by_cases h0 : 0 ≤ n
  all_goals
    go_enter Tryz.func38, Tryz.ntmps38
    go_wp2_with fail
    refine Hm.out.mono ?_
    rintro e w' ⟨rfl, rfl⟩
    go_wp2_with fail
    first | rw [zig_pos n h0 h2] | rw [zig_neg n (by omega) h1]
    generalize zig n = x0 at *
    go_loopw [4, 5] (fun x v wr => ∃ (y m : Nat) (A2 : Option Addr) (c2 : Nat) (p : List UInt8), y < 18014398509481984 ∧ m ≤ 1000 ∧ x = .int .u64 (y : Int) ∧ v = .slice A2 m c2 ∧ Ow wr w.heap.size A2 m c2 p ∧ Below w.heap.size w wr ∧ Hid (putL x0 = p ++ putL y)) (fun x _ _ => (intOf x).toNat)
    case atStart => exact ⟨x0, 0, none, 0, [], hzl, by omega, rfl, rfl, Ow.nil, Below.refl _ _, rfl⟩
    case round =>
      obtain ⟨y, m, A2, c2, p, hy, hm, rfl, rfl, hO, hbw, HP⟩ := hrel
      by_cases hge : 128 ≤ y
      · have e1 := or128 y
        have HN := Lib.hid (put_round HP.out (by omega) (by omega))
        have hml : m ≤ 10 := by
          have h5 := congrArg List.length HP.out
          have h6 := putL_len x0
          have h7 := putL_len y
          rw [List.length_append] at h5
          have := hO.len
          omega
        generalize UInt8.ofNat (y % 128 + 128) = u at *
        have hO2 := hO.below (bel_alloc (Below.refl _ _) (.cells #[.int .u8 (u.toNat : Int)] 5))
        have hB2 := Bs.const wr [u] #[.int .u8 (u.toNat : Int)] 5 (0, 0) 1 rfl rfl
        have hbs := hbw.size
        go_wp2_with (at_builtin; refine wpList_appBg _ iBytes rfl rfl rfl hO2 rfl hB2 (m + 1) (p ++ [u]) rfl rfl (by omega) (by simp; omega) ?_; intro A' c' w' ho hb _ _)
        go_roundw
        case rel => exact ⟨y / 128, m + 1, A', c', p ++ [u], by omega, by omega, by go_num, rfl, ho, (hbw.alloc hbs _).trans hb, HN⟩
        case measure => simp [intOf]; omega
      · have e1 := low_byte y (by omega)
        have HN := Lib.hid (put_end HP.out (by omega))
        have E1 := Lib.hid e1
        clear e1
        generalize hu : UInt8.ofNat y = u at *
        clear hu
        have hO2 := hO.below (bel_alloc (Below.refl _ _) (.cells #[.int .u8 (y : Int)] 5))
        have hB2 := Bs.const wr [u] #[.int .u8 (y : Int)] 5 (0, 0) 1 rfl (by rw [E1.out]; rfl)
        have hbs := hbw.size
        go_wp2_with (at_builtin; refine wpList_appBg _ iBytes rfl rfl rfl hO2 rfl hB2 (m + 1) (p ++ [u]) rfl rfl (by omega) (by simp; omega) ?_; intro A' c' w' ho hb _ _)
        go_ret2
        rw [HN.out] at ho
        exact ⟨A', m + 1, c', rfl, ho, (hbw.alloc hbs _).trans hb⟩
end Go.Proofs.YtfepinnfhcjopaaGreatDoor
end
section
namespace Go.Proofs.YtfepinnfhcjopaaGreatDoor
open Go.RowKit Go.Nst
set_option maxRecDepth 100000
set_option linter.unusedVariables false

theorem fold_any (n : Int) (w : World) (hm : mayB n = true) : Calls Tryz.prog 56 #[.int .i64 n] w fun e w' => e = .returned (.int .i64 ((zig n : Nat) : Int)) ∧ w = w' := by
  rw [mayB_iff] at hm
  obtain ⟨h1, h2⟩ := hm
  have HZ : Hid (zig n = if 0 ≤ n then (2 * n).toNat else (-2 * n - 1).toNat) := rfl
  generalize zig n = z at *
  by_cases h0 : 0 ≤ n
  · rw [if_pos h0] at HZ
    go_enter Tryz.func56, Tryz.ntmps56
    go_wp2_with fail
    go_ret
    refine ⟨congrArg (fun x => Ending.returned (Value.int .i64 x)) ?_, rfl⟩
    rw [HZ.out]
    omega
  · rw [if_neg h0] at HZ
    go_enter Tryz.func56, Tryz.ntmps56
    go_wp2_with fail
    go_ret
    refine ⟨congrArg (fun x => Ending.returned (Value.int .i64 x)) ?_, rfl⟩
    rw [HZ.out]
    omega

set_option maxHeartbeats 1000000 in
theorem refPut_any (n : Int) (w : World) (hm : mayB n = true) : Calls Tryz.prog 33 #[.int .i64 n] w (RetB w (putL (zig n))) := by
  have Hf := Lib.hid (fold_any n w hm)
  have hzl := zig_lt hm
  clear hm
  generalize zig n = x0 at *
  go_enter Tryz.func33, Tryz.ntmps33
  go_wp2_with fail
  refine Hf.out.mono ?_
  rintro e w' ⟨rfl, rfl⟩
  go_wp2_with fail
  go_loopw [3, 4] (fun x v wr => ∃ (y m : Nat) (A2 : Option Addr) (c2 : Nat) (p : List UInt8), y < 18014398509481984 ∧ m ≤ 1000 ∧ x = .int .i64 (y : Int) ∧ v = .slice A2 m c2 ∧ Ow wr w.heap.size A2 m c2 p ∧ Below w.heap.size w wr ∧ Hid (putL x0 = p ++ putL y)) (fun x _ _ => (intOf x).toNat)
  case atStart => exact ⟨x0, 0, none, 0, [], hzl, by omega, rfl, rfl, Ow.nil, Below.refl _ _, rfl⟩
  case round =>
    obtain ⟨y, m, A2, c2, p, hy, hm, rfl, rfl, hO, hbw, HP⟩ := hrel
    by_cases hge : 128 ≤ y
    · have HN := Lib.hid (put_round HP.out (by omega) (by omega))
      have hml : m ≤ 10 := by
        have h5 := congrArg List.length HP.out
        have h6 := putL_len x0
        have h7 := putL_len y
        rw [List.length_append] at h5
        have := hO.len
        omega
      have hue := u8_of (y % 128 + 128) (by omega)
      generalize UInt8.ofNat (y % 128 + 128) = u at *
      have HU := Lib.hid hue
      clear hue
      have hO2 := hO.below (bel_alloc (Below.refl _ _) (.cells #[.int .u8 ((y : Int) % 128 + 128)] 5))
      have hB2 := Bs.const wr [u] #[.int .u8 ((y : Int) % 128 + 128)] 5 (0, 0) 1 rfl (by simp only [bv, List.map_cons, List.map_nil, HU.out]; simp)
      have hbs := hbw.size
      go_wp2_with (at_builtin; refine wpList_appBg _ iBytes rfl rfl rfl hO2 rfl hB2 (m + 1) (p ++ [u]) rfl rfl (by omega) (by simp; omega) ?_; intro A' c' w' ho hb _ _)
      go_roundw
      case rel => exact ⟨y / 128, m + 1, A', c', p ++ [u], by omega, by omega, by go_num, rfl, ho, (hbw.alloc hbs _).trans hb, HN⟩
      case measure => simp [intOf]; omega
    · have e1 := low_byte y (by omega)
      have HN := Lib.hid (put_end HP.out (by omega))
      have E1 := Lib.hid e1
      clear e1
      generalize hu : UInt8.ofNat y = u at *
      clear hu
      have hO2 := hO.below (bel_alloc (Below.refl _ _) (.cells #[.int .u8 (y : Int)] 5))
      have hB2 := Bs.const wr [u] #[.int .u8 (y : Int)] 5 (0, 0) 1 rfl (by rw [E1.out]; rfl)
      have hbs := hbw.size
      go_wp2_with (at_builtin; refine wpList_appBg _ iBytes rfl rfl rfl hO2 rfl hB2 (m + 1) (p ++ [u]) rfl rfl (by omega) (by simp; omega) ?_; intro A' c' w' ho hb _ _)
      try go_ret
      rw [HN.out] at ho
      exact RetB.of rfl ho ((hbw.alloc hbs _).trans hb)

/-- a text's bytes -/
def textL (l : List UInt8) : List UInt8 := putL (zig l.length) ++ l
theorem text_long (l : List UInt8) (n : Nat) (hl : l.length = n) (hn : n ≤ 9223372036854775807) (h : 65536 < n) (w : World) : Calls Tryz.prog 37 #[.string ⟨l.toArray⟩] w fun e w' => e = .returned (.tuple #[.slice none 0 0, .int .i64 3]) ∧ w = w' := by
  have hsz : (ByteArray.mk l.toArray).size = n := by simpa [ByteArray.size] using hl
  go_enter Tryz.func37, Tryz.ntmps37
  go_wp2_with fail
  go_ret2
  exact ⟨rfl, rfl⟩
theorem text_any (l : List UInt8) (n : Nat) (hl : l.length = n) (hn : n ≤ 65536) (w : World) : Calls Tryz.prog 37 #[.string ⟨l.toArray⟩] w (RetBE w (textL l) 0) := by
  have hsz : (ByteArray.mk l.toArray).size = n := by simpa [ByteArray.size] using hl
  have Hp := Lib.hid (put_yes (n : Int) w (by rw [mayB_iff]; omega))
  have HT : Hid (putL (zig (n : Int)) ++ l = textL l) := by rw [← hl]; exact Lib.hid rfl
  have HL := Lib.hid hl
  have HP := Lib.hid (putL_len (zig (n : Int)))
  clear hl
  generalize putL (zig (n : Int)) = pl at *
  go_enter Tryz.func37, Tryz.ntmps37
  go_wp2_with fail
  refine Hp.out.mono ?_
  rintro e w1 ⟨A1, n1, c1, rfl, ho1, hb1⟩
  have hn1 : n1 ≤ 11 := by rw [← ho1.len]; exact HP.out.2
  go_wp2_with (at_builtin; refine wpList_appS _ iBytes Tryz.underlying9 rfl rfl rfl ho1 (l := l) rfl (n1 + n) (textL l) (by rw [HL.out]) HT.out (by rw [HL.out]; omega) hb1.size ?_; intro A' c' w' ho hb _)
  go_ret2
  exact ⟨A', n1 + n, c', rfl, ho, hb1.trans hb⟩
theorem refText1_any (l : List UInt8) (n : Nat) (hl : l.length = n) (hn : n ≤ 100000) (w : World) : Calls Tryz.prog 32 #[.string ⟨l.toArray⟩] w (RetB w (textL l)) := by
  have hsz : (ByteArray.mk l.toArray).size = n := by simpa [ByteArray.size] using hl
  have Hp := Lib.hid (refPut_any (n : Int) w (by rw [mayB_iff]; omega))
  have HT : Hid (putL (zig (n : Int)) ++ l = textL l) := by rw [← hl]; exact Lib.hid rfl
  have HL := Lib.hid hl
  have HP := Lib.hid (putL_len (zig (n : Int)))
  clear hl
  generalize putL (zig (n : Int)) = pl at *
  go_enter Tryz.func32, Tryz.ntmps32
  go_wp2_with fail
  refine Hp.out.mono ?_
  rintro e w1 ⟨A1, n1, c1, rfl, ho1, hb1⟩
  have hn1 : n1 ≤ 11 := by rw [← ho1.len]; exact HP.out.2
  go_wp2_with (at_builtin; refine wpList_appS _ iBytes Tryz.underlying9 rfl rfl rfl ho1 (l := l) rfl (n1 + n) (textL l) (by rw [HL.out]) HT.out (by rw [HL.out]; omega) hb1.size ?_; intro A' c' w' ho hb _)
  try go_ret
  exact RetB.of rfl ho (hb1.trans hb)
end Go.Proofs.YtfepinnfhcjopaaGreatDoor
end
section
namespace Go.Proofs.YtfepinnfhcjopaaGreatDoor
open Go.RowKit Go.Nst
set_option maxRecDepth 100000

theorem refMay_any (n : Int) (w : World) : Calls Tryz.prog 73 #[.int .i64 n] w fun e w' => e = .returned (.bool (mayB n)) ∧ w = w' := by
  by_cases h1 : -9007199254740991 ≤ n <;> by_cases h2 : n ≤ 9007199254740991
  all_goals
    have HM : Hid (mayB n = (decide (-9007199254740991 ≤ n) && decide (n ≤ 9007199254740991))) := rfl
    simp only [h1, h2, decide_true, decide_false] at HM
    generalize mayB n = mb at *
    go_enter Tryz.func73, Tryz.ntmps73
    go_wp2_with fail
    go_ret
    exact ⟨by rw [HM.out]; rfl, rfl⟩

def gotR (r : Option (Int × Nat)) : Value := match r with
  | some (n, k) => .tuple #[.int .i64 n, .int .i64 (k : Int), .bool true]
  | none => .tuple #[.int .i64 0, .int .i64 0, .bool false]

theorem pow_49 {k : Nat} (h : k < 8) : 128 ^ k ≤ 562949953421312 := Nat.le_trans (Nat.pow_le_pow_right (by omega) (show k ≤ 7 by omega)) (by decide)
theorem mul_q (u : UInt8) (k : Nat) {q : Nat} (hq : q = 128 ^ k) (g : u.toNat % 128 * 128 ^ k < 72057594037927936) : wrap64 ((u.toNat : Int) % 128 * (q : Int)) = ((u.toNat % 128 * 128 ^ k : Nat) : Int) := by
  have e : (u.toNat : Int) % 128 * (q : Int) = ((u.toNat % 128 * 128 ^ k : Nat) : Int) := by rw [hq]; simp
  rw [e]
  exact IntWalk.wrap64_in _ (by omega)
theorem zag_form (z : Nat) : zag z = if z % 2 = 1 then -((z / 2 : Nat) : Int) - 1 else ((z / 2 : Nat) : Int) := rfl

set_option maxHeartbeats 2000000 in
theorem refGet_any (A : Option Addr) (n c : Nat) (l : List UInt8) (w : World) (hB : Bs w A n l) :
    Calls Tryz.prog 52 #[.slice A n c] w fun e w' => e = .returned (gotR (getL l)) ∧ w = w' := by
  have HL := Lib.hid hB.len
  go_enter Tryz.func52, Tryz.ntmps52
  go_wp2_with fail
  go_loop [5, 6, 7] (fun x b i => ∃ k y q : Nat, k ≤ n ∧ k ≤ 8 ∧ i = .int .i64 k ∧ x = .int .i64 (y : Int) ∧ b = .int .i64 (q : Int) ∧ y < 72057594037927936 ∧ q ≤ 72057594037927936 ∧ Hid (q = 128 ^ k ∧ y < 128 ^ k ∧ getL l = getGo k y (l.drop k))) (fun _ _ i => n - (intOf i).toNat)
  case atStart => exact ⟨0, 0, 1, Nat.zero_le _, by omega, rfl, rfl, rfl, by omega, by omega, by simp, by simp, rfl⟩
  case round =>
    obtain ⟨k, y, q, hk, hk8, rfl, rfl, rfl, hy56, hq56, HY⟩ := hrel
    by_cases hlt : k < n
    · by_cases hlt8 : k < 8
      · obtain ⟨u, b, off, rfl, hu, hb, hc, h256⟩ := hB.at hlt
        obtain ⟨HQ, HYb, HYr⟩ := HY.out
        obtain ⟨g1, g2, g3⟩ := get_bound (u := u.toNat) HYb hlt8
        have hq49 : q ≤ 562949953421312 := by rw [HQ]; exact pow_49 hlt8
        have HQ2 := Lib.hid (show q * 128 = 128 ^ (k + 1) by rw [HQ, Nat.pow_succ])
        have e3 := mul_q u k (q := q) HQ g2
        have HG := Lib.hid g1
        by_cases hu7 : 128 ≤ u.toNat
        · have HM := Lib.hid (get_more HYr hu.out hlt8 hu7)
          clear HY HYb HYr g1 HQ
          generalize u.toNat % 128 * 128 ^ k = p at *
          go_wp2_with fail
          go_round
          case rel => exact ⟨k + 1, y + p, q * 128, by omega, by omega, by go_num, by go_num, by go_num, g3, by omega, HQ2.out, HG.out, HM.out⟩
          case measure => simp [intOf]; omega
        · have HM := Lib.hid (get_last HYr hu.out hlt8 hu7)
          have ez := zag_form (y + u.toNat % 128 * 128 ^ k)
          clear HY HYb HYr g1 HQ
          generalize u.toNat % 128 * 128 ^ k = p at *
          by_cases hz0 : 0 < k ∧ u.toNat = 0
          · have d1 : 0 < k := hz0.1
            have d2 : ((u.toNat : Int) == 0) = true := by rw [beq_iff_eq]; omega
            have d3 : u.toNat = 0 := hz0.2
            rw [if_pos hz0] at HM
            clear hz0
            go_wp2_with fail
            go_ret3
            exact ⟨by rw [HM.out]; rfl, rfl⟩
          · rw [if_neg hz0] at HM
            have Hm := Lib.hid (fun W => refMay_any (zag (y + p)) W)
            have fin : ∀ r, gotR (if mayB (zag (y + p)) = true then some (zag (y + p), k + 1) else none) = r → gotR (getL l) = r := fun r h => by rw [HM.out]; exact h
            have FIN := Lib.hid fin
            clear fin HM
            by_cases hodd : (y + p) % 2 = 1
            · have o1 : (((y : Int) + p) % 2 == 1) = true := by rw [beq_iff_eq]; omega
              rw [if_pos hodd] at ez
              have HZ := Lib.hid ez
              clear ez hodd
              generalize zag (y + p) = zz at *
              have hzz : -(((y : Int) + p) / 2) - 1 = zz := by rw [HZ.out]; omega
              cases hm : mayB zz
              all_goals
                have HMB := Lib.hid hm
                clear hm
                rw [HMB.out] at Hm FIN
                by_cases hk0 : 0 < k
                all_goals
                  first
                    | (have d3 : ¬ u.toNat = 0 := by omega
                       have d2 : ((u.toNat : Int) == 0) = false := by rw [beq_eq_false_iff_ne]; omega)
                    | skip
                  clear hz0
                  go_wp2_with (go_at_call 73; refine (Hm.out _).mono ?_; rintro e w' ⟨rfl, rfl⟩)
                  go_ret3
                  exact ⟨by rw [FIN.out _ rfl]; rfl, rfl⟩
            · have o1 : (((y : Int) + p) % 2 == 1) = false := by rw [beq_eq_false_iff_ne]; omega
              rw [if_neg hodd] at ez
              have HZ := Lib.hid ez
              clear ez hodd
              generalize zag (y + p) = zz at *
              have hzz : (((y : Int) + p) / 2) = zz := by rw [HZ.out]; omega
              cases hm : mayB zz
              all_goals
                have HMB := Lib.hid hm
                clear hm
                rw [HMB.out] at Hm FIN
                by_cases hk0 : 0 < k
                all_goals
                  first
                    | (have d3 : ¬ u.toNat = 0 := by omega
                       have d2 : ((u.toNat : Int) == 0) = false := by rw [beq_eq_false_iff_ne]; omega)
                    | skip
                  clear hz0
                  go_wp2_with (go_at_call 73; refine (Hm.out _).mono ?_; rintro e w' ⟨rfl, rfl⟩)
                  go_ret3
                  exact ⟨by rw [FIN.out _ rfl]; rfl, rfl⟩
      · have HM : Hid (getL l = none) := get_end HY.out.2.2 (by omega)
        go_wp2_with fail
        go_ret3
        exact ⟨by rw [HM.out]; rfl, rfl⟩
    · have HM : Hid (getL l = none) := get_end HY.out.2.2 (by have := HL.out; omega)
      go_wp2_with fail
      go_ret3
      exact ⟨by rw [HM.out]; rfl, rfl⟩
end Go.Proofs.YtfepinnfhcjopaaGreatDoor
end
