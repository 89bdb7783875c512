/-
  num.Put and the reference's.
-/
import Derived.Test.YtgklbejnbplbgaaDoorNumG
namespace Go.Proofs.YtgklbejnbplbgaaDoor
open Go.RowKit Go.Nst
set_option maxRecDepth 100000
set_option linter.unusedVariables false

theorem ofInt_nat64 (a : Nat) (h : a < 18446744073709551616) : (BitVec.ofInt 64 (a : Int)).toNat = a := by
  rw [BitVec.ofInt_natCast, BitVec.toNat_ofNat]; exact Nat.mod_eq_of_lt (by omega)
theorem zig_pos (n : Int) (h0 : 0 ≤ n) (h2 : n ≤ 9007199254740991) : bits .xor .u64 (n * 2) (n / 9223372036854775808) = ((zig n : Nat) : Int) := by
  obtain ⟨a, rfl⟩ := Int.eq_ofNat_of_zero_le h0
  have e1 : (a : Int) / 9223372036854775808 = ((0 : Nat) : Int) := by omega
  have e2 : (a : Int) * 2 = ((2 * a : Nat) : Int) := by omega
  have e3 : zig (a : Int) = 2 * a := by unfold zig; rw [if_pos h0]; omega
  rw [e1, e2, e3, u64_xor_nat _ _ (by omega) (by omega), Nat.xor_zero]
theorem zig_neg (n : Int) (h0 : n < 0) (h2 : -9007199254740991 ≤ n) : bits .xor .u64 (IntKind.u64.wrap (n * 2)) (IntKind.u64.wrap (n / 9223372036854775808)) = ((zig n : Nat) : Int) := by
  have e1 : IntKind.u64.wrap (n / 9223372036854775808) = ((18446744073709551615 : Nat) : Int) := by
    simp [IntKind.wrap, IntKind.bits, IntKind.signed]; omega
  have e2 : IntKind.u64.wrap (n * 2) = (((n * 2 + 18446744073709551616).toNat : Nat) : Int) := by
    simp [IntKind.wrap, IntKind.bits, IntKind.signed]; omega
  have e3 : zig n = (-2 * n - 1).toNat := by unfold zig; rw [if_neg (by omega)]
  rw [e1, e2, e3]
  obtain ⟨a, ha⟩ : ∃ a : Nat, (n * 2 + 18446744073709551616).toNat = a := ⟨_, rfl⟩
  rw [ha]
  have hx : a ^^^ 18446744073709551615 = 18446744073709551615 - a := by
    have h1 : a < 18446744073709551616 := by omega
    have := BitVec.toNat_not (x := BitVec.ofNat 64 a)
    rw [← BitVec.xor_allOnes, BitVec.toNat_xor, BitVec.toNat_ofNat, Nat.mod_eq_of_lt (by omega)] at this
    simpa using this
  rw [u64_xor_nat _ _ (by omega) (by omega), hx]
  omega
theorem or128 (x : Nat) : bits .or .u8 ((x : Int) % 256) 128 = ((UInt8.ofNat (x % 128 + 128)).toNat : Int) := by
  have e : (x : Int) % 256 = ((x % 256 : Nat) : Int) := by omega
  rw [e, u8_of (x % 128 + 128) (by omega)]
  have := u8_or_nat (x % 256) 128 (by omega) (by omega)
  rw [show ((128 : Nat) : Int) = 128 from rfl] at this
  rw [this]
  congr 1
  by_cases h : x % 256 < 128
  · rw [Nat.or_comm, nat_join 7 128 (x % 256) (by decide) h]; omega
  · have e2 : x % 256 = 128 + x % 128 := by omega
    rw [e2]
    have e3 : 128 + x % 128 = 128 ||| x % 128 := (nat_join 7 128 (x % 128) (by decide) (by omega)).symm
    rw [e3, Nat.or_comm (128 ||| x % 128) 128, ← Nat.or_assoc, Nat.or_self, ← e3]
    omega
theorem low_byte (x : Nat) (h : x < 128) : ((x : Int)) = ((UInt8.ofNat x).toNat : Int) := by rw [u8_of x (by omega)]

/-- bytes of its own, and an error -/
def RetBE (w : World) (l : List UInt8) (err : Int) (e : Ending) (w' : World) : Prop := ∃ A n c, e = .returned (.tuple #[.slice A n c, .int .i64 err]) ∧ Ow w' w.heap.size A n c l ∧ Below w.heap.size w w'

theorem put_no (n : Int) (w : World) (h : mayB n = false) : Calls Tryd.prog 36 #[.int .i64 n] w fun e w' => e = .returned (.tuple #[.slice none 0 0, .int .i64 10]) ∧ w = w' := by
  have Hm := Lib.hid (may_not n w h)
  clear h
  go_enter Tryd.func36, Tryd.ntmps36
  go_wp2_with fail
  refine Hm.out.mono ?_
  rintro e w' ⟨rfl, rfl⟩
  go_wp2_with fail
  go_ret2
  exact ⟨rfl, rfl⟩

set_option maxHeartbeats 1000000 in
theorem put_yes (n : Int) (w : World) (hm : mayB n = true) : Calls Tryd.prog 36 #[.int .i64 n] w (RetBE w (putL (zig n)) 0) := by
  have Hm := Lib.hid (may_yes n w hm)
  have hzl := zig_lt hm
  rw [mayB_iff] at hm
  obtain ⟨h1, h2⟩ := hm
  by_cases h0 : 0 ≤ n
  all_goals
    go_enter Tryd.func36, Tryd.ntmps36
    go_wp2_with fail
    refine Hm.out.mono ?_
    rintro e w' ⟨rfl, rfl⟩
    go_wp2_with fail
    first | rw [zig_pos n h0 h2] | rw [zig_neg n (by omega) h1]
    generalize zig n = x0 at *
    go_loopw [4, 5] (fun x v wr => ∃ (y m : Nat) (A2 : Option Addr) (c2 : Nat) (p : List UInt8), y < 18014398509481984 ∧ m ≤ 1000 ∧ x = .int .u64 (y : Int) ∧ v = .slice A2 m c2 ∧ Ow wr w.heap.size A2 m c2 p ∧ Below w.heap.size w wr ∧ Hid (putL x0 = p ++ putL y)) (fun x _ _ => (intOf x).toNat)
    case atStart => exact ⟨x0, 0, none, 0, [], hzl, by omega, rfl, rfl, Ow.nil, Below.refl _ _, rfl⟩
    case round =>
      obtain ⟨y, m, A2, c2, p, hy, hm, rfl, rfl, hO, hbw, HP⟩ := hrel
      by_cases hge : 128 ≤ y
      · have e1 := or128 y
        have HN := Lib.hid (put_round HP.out (by omega) (by omega))
        have hml : m ≤ 10 := by
          have h5 := congrArg List.length HP.out
          have h6 := putL_len x0
          have h7 := putL_len y
          rw [List.length_append] at h5
          have := hO.len
          omega
        generalize UInt8.ofNat (y % 128 + 128) = u at *
        have hO2 := hO.below (bel_alloc (Below.refl _ _) (.cells #[.int .u8 (u.toNat : Int)] 5))
        have hB2 := Bs.const wr [u] #[.int .u8 (u.toNat : Int)] 5 (0, 0) 1 rfl rfl
        have hbs := hbw.size
        go_wp2_with (at_builtin; refine wpList_appBg _ iBytes rfl rfl rfl hO2 rfl hB2 (m + 1) (p ++ [u]) rfl rfl (by omega) (by simp; omega) ?_; intro A' c' w' ho hb _ _)
        go_roundw
        case rel => exact ⟨y / 128, m + 1, A', c', p ++ [u], by omega, by omega, by go_num, rfl, ho, (hbw.alloc hbs _).trans hb, HN⟩
        case measure => simp [intOf]; omega
      · have e1 := low_byte y (by omega)
        have HN := Lib.hid (put_end HP.out (by omega))
        have E1 := Lib.hid e1
        clear e1
        generalize hu : UInt8.ofNat y = u at *
        clear hu
        have hO2 := hO.below (bel_alloc (Below.refl _ _) (.cells #[.int .u8 (y : Int)] 5))
        have hB2 := Bs.const wr [u] #[.int .u8 (y : Int)] 5 (0, 0) 1 rfl (by rw [E1.out]; rfl)
        have hbs := hbw.size
        go_wp2_with (at_builtin; refine wpList_appBg _ iBytes rfl rfl rfl hO2 rfl hB2 (m + 1) (p ++ [u]) rfl rfl (by omega) (by simp; omega) ?_; intro A' c' w' ho hb _ _)
        go_ret2
        rw [HN.out] at ho
        exact ⟨A', m + 1, c', rfl, ho, (hbw.alloc hbs _).trans hb⟩
end Go.Proofs.YtgklbejnbplbgaaDoor
