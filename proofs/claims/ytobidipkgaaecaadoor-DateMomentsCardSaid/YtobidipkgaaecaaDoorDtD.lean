/-
  Dates shown: digits.
-/
import Derived.Test.YtobidipkgaaecaaDoorDtV
namespace Go.Proofs.YtobidipkgaaecaaDoor
open Go.RowKit Go.Nst
set_option maxRecDepth 100000
set_option linter.unusedVariables false
set_option linter.unusedSimpArgs false

theorem digL_cons : ∀ (z : Nat) (n : Int), digL (z + 1) n = UInt8.ofNat (48 + (n / 10 ^ z % 10).toNat) :: digL z n
  | 0, n => by simp [digL]
  | z + 1, n => by
    have ih := digL_cons z (n / 10)
    rw [digL, ih]
    rw [Int.ediv_ediv_of_nonneg (by omega), show (10 : Int) * 10 ^ z = 10 ^ (z + 1) by rw [Int.pow_succ, Int.mul_comm]]
    rw [digL]
    rfl
theorem st_set (k : Nat) (d : UInt8) (L : List UInt8) : (List.replicate (k + 1) (0 : UInt8) ++ L).set k d = List.replicate k 0 ++ d :: L := by
  rw [List.replicate_succ', List.append_assoc, List.set_append_right _ _ (by simp)]
  simp
set_option maxHeartbeats 4000000 in
theorem digits_any (wide : Nat) (n : Int) (w : World) (h0 : 0 ≤ n) (h1 : n ≤ 100000) (hw : wide ≤ 9)
    (hmk : ∀ W : World, (Instr.makeSlice 63 (.int .i64 (wide : Int)) (.int .i64 (wide : Int))).run Tryd.prog W = .ok (.slice (some ⟨W.heap.size, 0, none⟩) wide wide) (W.alloc (.cells (bv (List.replicate wide 0)).toArray 5))) :
    Calls Tryd.prog 31 #[.int .i64 n, .int .i64 (wide : Int)] w fun e w' => e = .returned (.string ⟨(digL wide n).toArray⟩) ∧ Below w.heap.size w w' := by
  have k1 : IntKind.i64.wrap ((wide : Int) - 1) = (wide : Int) - 1 := IntWalk.i64_in _ (by omega)
  have hO0 : Ow (w.alloc (.cells (bv (List.replicate wide 0)).toArray 5)) w.heap.size (some ⟨w.heap.size, 0, none⟩) wide wide (List.replicate wide 0) := by
    have := lit_made w (List.replicate wide 0) (bv (List.replicate wide 0)).toArray (by simp) (by simp; omega)
    simpa using this
  have B0 := bel_alloc (Below.refl w.heap.size w) (.cells (bv (List.replicate wide 0)).toArray 5)
  obtain ⟨res, hres⟩ : ∃ res, digL wide n = res := ⟨_, rfl⟩
  rw [hres]
  have HRES := Lib.hid hres
  clear hres
  go_enter Tryd.func31, Tryd.ntmps31
  go_wp2_with fail
  go_loopw [0, 6] (fun f i wr => ∃ (z k : Nat) (j q : Int), f = .int .i64 q ∧ q = n / 10 ^ z ∧ i = .int .i64 j ∧ j + 1 = (k : Int) ∧ k + z = wide ∧ 0 ≤ q ∧ q ≤ 100000 ∧ Ow wr w.heap.size (some ⟨w.heap.size, 0, none⟩) wide wide (List.replicate k 0 ++ digL z n) ∧ Below w.heap.size w wr) (fun _ i _ => (intOf i + 1).toNat)
  case atStart => exact ⟨0, wide, _, n, rfl, by simp, rfl, by omega, rfl, h0, h1, by simpa [digL] using hO0, B0⟩
  case round =>
    obtain ⟨z, k, j, q, rfl, hq, rfl, hj, hkz, hq0, hq1, hO, hbw⟩ := hrel
    cases k with
    | zero =>
      obtain rfl : z = wide := by omega
      obtain rfl : j = -1 := by omega
      rw [HRES.out] at hO
      simp only [List.replicate_zero, List.nil_append] at hO
      have hB := hO.bs
      have ks := hB.str (P := Tryd.prog) 63 9 5 z Tryd.underlying63 Tryd.underlying5 Tryd.underlying9
      clear hB hq hkz
      go_wp2_with fail
      go_ret
      exact ⟨rfl, hbw⟩
    | succ k =>
      obtain rfl : j = (k : Int) := by omega
      have d1 : decide ((0 : Int) ≤ (k : Int)) = true := by simp
      have t1 : q.tmod 10 = q % 10 := Int.tmod_eq_emod_of_nonneg hq0
      have t2 : IntKind.i64.wrap (48 + q % 10) = 48 + q % 10 := IntWalk.i64_in _ (by omega)
      have t3 : IntKind.u8.wrap (48 + q % 10) = 48 + q % 10 := IntWalk.u8_in _ (by omega)
      have t4 : IntKind.i64.wrap (q / 10) = q / 10 := IntWalk.i64_in _ (by omega)
      have t5 : IntKind.i64.wrap ((k : Int) - 1) = (k : Int) - 1 := IntWalk.i64_in _ (by omega)
      have hklt : k < wide := by omega
      have hdn : ((UInt8.ofNat (48 + (q % 10).toNat)).toNat : Int) = 48 + q % 10 := by rw [digit_nat]; omega
      have hOn : Ow (wr.setCell ⟨w.heap.size, k, none⟩ (.int .u8 (48 + q % 10))) w.heap.size (some ⟨w.heap.size, 0, none⟩) wide wide (List.replicate k 0 ++ digL (z + 1) n) := by
        have := hO.set k (UInt8.ofNat (48 + (q % 10).toNat))
        rw [hdn, st_set] at this
        rw [digL_cons, ← hq]
        exact this
      have hq2 : q / 10 = n / 10 ^ (z + 1) := by rw [hq, Int.ediv_ediv_of_nonneg (Int.pow_nonneg (by omega)), Int.pow_succ]
      have HQ2 := Lib.hid hq2
      have Bn := hbw.setCell (p := ⟨w.heap.size, k, none⟩) (Nat.le_refl _) (.int .u8 (48 + q % 10))
      obtain ⟨u, hu, hc, hfz, hu2⟩ := hO.cellAt (g := w.heap.size) (j := k) hklt
      clear hu hq hq2 hdn hO hO0 B0
      go_wp2_with fail
      go_roundw
      case rel => exact ⟨z + 1, k, _, _, rfl, HQ2.out, rfl, by omega, by omega, by omega, by omega, hOn, Bn⟩
      case measure => simp [intOf]
theorem digits4_any (n : Int) (w : World) (h0 : 0 ≤ n) (h1 : n ≤ 100000) : Calls Tryd.prog 31 #[.int .i64 n, .int .i64 4] w fun e w' => e = .returned (.string ⟨(digL 4 n).toArray⟩) ∧ Below w.heap.size w w' := digits_any 4 n w h0 h1 (by omega) (fun W => by kernel_rfl)
theorem digits2_any (n : Int) (w : World) (h0 : 0 ≤ n) (h1 : n ≤ 100000) : Calls Tryd.prog 31 #[.int .i64 n, .int .i64 2] w fun e w' => e = .returned (.string ⟨(digL 2 n).toArray⟩) ∧ Below w.heap.size w w' := digits_any 2 n w h0 h1 (by omega) (fun W => by kernel_rfl)
end Go.Proofs.YtobidipkgaaecaaDoor
