/-
  The reference's Put, num.Text and the reference's Text.
-/
import Derived.Test.YtgklbejnbplbgaaDoorNumI
namespace Go.Proofs.YtgklbejnbplbgaaDoor
open Go.RowKit Go.Nst
set_option maxRecDepth 100000
set_option linter.unusedVariables false

theorem fold_any (n : Int) (w : World) (hm : mayB n = true) : Calls Tryd.prog 45 #[.int .i64 n] w fun e w' => e = .returned (.int .i64 ((zig n : Nat) : Int)) ∧ w = w' := by
  rw [mayB_iff] at hm
  obtain ⟨h1, h2⟩ := hm
  have HZ : Hid (zig n = if 0 ≤ n then (2 * n).toNat else (-2 * n - 1).toNat) := rfl
  generalize zig n = z at *
  by_cases h0 : 0 ≤ n
  · rw [if_pos h0] at HZ
    go_enter Tryd.func45, Tryd.ntmps45
    go_wp2_with fail
    go_ret
    refine ⟨congrArg (fun x => Ending.returned (Value.int .i64 x)) ?_, rfl⟩
    rw [HZ.out]
    omega
  · rw [if_neg h0] at HZ
    go_enter Tryd.func45, Tryd.ntmps45
    go_wp2_with fail
    go_ret
    refine ⟨congrArg (fun x => Ending.returned (Value.int .i64 x)) ?_, rfl⟩
    rw [HZ.out]
    omega

set_option maxHeartbeats 1000000 in
theorem refPut_any (n : Int) (w : World) (hm : mayB n = true) : Calls Tryd.prog 39 #[.int .i64 n] w (RetB w (putL (zig n))) := by
  have Hf := Lib.hid (fold_any n w hm)
  have hzl := zig_lt hm
  clear hm
  generalize zig n = x0 at *
  go_enter Tryd.func39, Tryd.ntmps39
  go_wp2_with fail
  refine Hf.out.mono ?_
  rintro e w' ⟨rfl, rfl⟩
  go_wp2_with fail
  go_loopw [3, 4] (fun x v wr => ∃ (y m : Nat) (A2 : Option Addr) (c2 : Nat) (p : List UInt8), y < 18014398509481984 ∧ m ≤ 1000 ∧ x = .int .i64 (y : Int) ∧ v = .slice A2 m c2 ∧ Ow wr w.heap.size A2 m c2 p ∧ Below w.heap.size w wr ∧ Hid (putL x0 = p ++ putL y)) (fun x _ _ => (intOf x).toNat)
  case atStart => exact ⟨x0, 0, none, 0, [], hzl, by omega, rfl, rfl, Ow.nil, Below.refl _ _, rfl⟩
  case round =>
    obtain ⟨y, m, A2, c2, p, hy, hm, rfl, rfl, hO, hbw, HP⟩ := hrel
    by_cases hge : 128 ≤ y
    · have HN := Lib.hid (put_round HP.out (by omega) (by omega))
      have hml : m ≤ 10 := by
        have h5 := congrArg List.length HP.out
        have h6 := putL_len x0
        have h7 := putL_len y
        rw [List.length_append] at h5
        have := hO.len
        omega
      have hue := u8_of (y % 128 + 128) (by omega)
      generalize UInt8.ofNat (y % 128 + 128) = u at *
      have HU := Lib.hid hue
      clear hue
      have hO2 := hO.below (bel_alloc (Below.refl _ _) (.cells #[.int .u8 ((y : Int) % 128 + 128)] 5))
      have hB2 := Bs.const wr [u] #[.int .u8 ((y : Int) % 128 + 128)] 5 (0, 0) 1 rfl (by simp only [bv, List.map_cons, List.map_nil, HU.out]; simp)
      have hbs := hbw.size
      go_wp2_with (at_builtin; refine wpList_appBg _ iBytes rfl rfl rfl hO2 rfl hB2 (m + 1) (p ++ [u]) rfl rfl (by omega) (by simp; omega) ?_; intro A' c' w' ho hb _ _)
      go_roundw
      case rel => exact ⟨y / 128, m + 1, A', c', p ++ [u], by omega, by omega, by go_num, rfl, ho, (hbw.alloc hbs _).trans hb, HN⟩
      case measure => simp [intOf]; omega
    · have e1 := low_byte y (by omega)
      have HN := Lib.hid (put_end HP.out (by omega))
      have E1 := Lib.hid e1
      clear e1
      generalize hu : UInt8.ofNat y = u at *
      clear hu
      have hO2 := hO.below (bel_alloc (Below.refl _ _) (.cells #[.int .u8 (y : Int)] 5))
      have hB2 := Bs.const wr [u] #[.int .u8 (y : Int)] 5 (0, 0) 1 rfl (by rw [E1.out]; rfl)
      have hbs := hbw.size
      go_wp2_with (at_builtin; refine wpList_appBg _ iBytes rfl rfl rfl hO2 rfl hB2 (m + 1) (p ++ [u]) rfl rfl (by omega) (by simp; omega) ?_; intro A' c' w' ho hb _ _)
      try go_ret
      rw [HN.out] at ho
      exact RetB.of rfl ho ((hbw.alloc hbs _).trans hb)

/-- a text's bytes -/
def textL (l : List UInt8) : List UInt8 := putL (zig l.length) ++ l
end Go.Proofs.YtgklbejnbplbgaaDoor
