/-
  The reference's More, both Sums: what each returns.
-/
import Derived.Test.YtgklbejnbplbgaaDoorCrcA
namespace Go.Proofs.YtgklbejnbplbgaaDoor
open Go.RowKit Go.Nst
set_option maxRecDepth 100000

theorem bits_xorP (a : Nat) (ha : a < 4294967296) : bits .xor .u32 (a : Int) 3988292384 = ((a ^^^ 3988292384 : Nat) : Int) := u32_xor_nat a 3988292384 ha (by omega)
theorem bits_xorP2 (a : Nat) (ha : a < 4294967296) : bits .xor .u32 ((a : Int) / 2) 3988292384 = (((a / 2) ^^^ 3988292384 : Nat) : Int) := by
  have := u32_xor_nat (a / 2) 3988292384 (by omega) (by omega)
  rw [Int.natCast_ediv] at this
  exact this
theorem bits_xorF (a : Nat) (ha : a < 4294967296) : bits .xor .u32 (a : Int) 4294967295 = ((a ^^^ 4294967295 : Nat) : Int) := u32_xor_nat a 4294967295 ha (by omega)
theorem refL_snoc (c : Nat) (a : List UInt8) (u : UInt8) : refL c (a ++ [u]) = refB (refL c a) u := by unfold refL; rw [List.foldl_append]; rfl
theorem ref_round {l : List UInt8} {k c y y1 z : Nat} {u : UInt8} (hu : l[k]? = some u) (e0 : y = refL c (l.take k)) (e1 : y1 = y ^^^ u.toNat) (e2 : z = stN 8 y1) : z = refL c (l.take (k + 1)) := by
  rw [take_snoc hu, refL_snoc, ← e0, e2, e1]
  rfl
theorem ref_end {l : List UInt8} {k c y res : Nat} (hl : l.length = k) (e0 : y = refL c (l.take k)) (hf : res = refL c l ^^^ 4294967295) : res = y ^^^ 4294967295 := by
  rw [List.take_of_length_le (by omega)] at e0
  rw [hf, e0]
theorem st_odd {j y z : Nat} (h : z = stN j y) (h1 : z % 2 = 1) : (z / 2) ^^^ 3988292384 = stN (j + 1) y := by
  rw [stN_succ, ← h]; unfold st; rw [if_pos h1]
theorem st_even {j y z : Nat} (h : z = stN j y) (h1 : ¬ z % 2 = 1) : z / 2 = stN (j + 1) y := by
  rw [stN_succ, ← h]; unfold st; rw [if_neg h1]

set_option maxHeartbeats 400000 in
theorem refMore_any (s : Nat) (hs : s < 4294967296) (A : Option Addr) (n c : Nat) (l : List UInt8) (w : World) (hn : n ≤ 9223372036854775807) (hB : Bs w A n l) :
    Calls Tryd.prog 15 #[.int .u32 s, .slice A n c] w fun e w' => e = .returned (.int .u32 (crcMore s l : Int)) ∧ w = w' := by
  have e0 := bits_xorF s hs
  obtain ⟨s1, hs1⟩ : ∃ s1, s1 = s ^^^ 4294967295 := ⟨_, rfl⟩
  rw [← hs1] at e0
  have hs1l : s1 < 4294967296 := by rw [hs1]; exact xor_lt hs (by omega)
  have HF : Hid (crcMore s l = refL s1 l ^^^ 4294967295) := by rw [crcMore_ref, hs1]; rfl
  clear hs1
  have HL := Lib.hid hB.len
  generalize crcMore s l = res at *
  go_enter Tryd.func15, Tryd.ntmps15
  go_wp2
  go_loop [5, 6] (fun x i => ∃ k y : Nat, k ≤ n ∧ i = .int .i64 k ∧ x = .int .u32 (y : Int) ∧ y < 4294967296 ∧ Hid (y = refL s1 (l.take k))) (fun _ i => n - (intOf i).toNat)
  case atStart => exact ⟨0, s1, Nat.zero_le _, rfl, rfl, hs1l, rfl⟩
  case round =>
    obtain ⟨k, y, hk, rfl, rfl, hy, HY⟩ := hrel
    by_cases hlt : k < n
    · obtain ⟨u, b, off, rfl, hu, hb, hc, h256⟩ := hB.at hlt
      have e1 := bits_xor y u.toNat hy (u8_lt u)
      obtain ⟨y1, hy1⟩ : ∃ x, x = y ^^^ u.toNat := ⟨_, rfl⟩
      rw [← hy1] at e1
      have hl1 : y1 < 4294967296 := by rw [hy1]; exact xor_lt hy (u8_lt u)
      have HY1 := Lib.hid hy1
      clear hy1
      go_wp2
      go_loop [5, 7] (fun x i => ∃ j z : Nat, j ≤ 8 ∧ i = .int .i64 j ∧ x = .int .u32 (z : Int) ∧ z < 4294967296 ∧ Hid (z = stN j y1)) (fun _ i => 8 - (intOf i).toNat)
      case atStart => exact ⟨0, y1, by omega, rfl, rfl, hl1, rfl⟩
      case round =>
        obtain ⟨j, z, hj, rfl, rfl, hz, HZ⟩ := hrel
        by_cases hlt8 : j < 8
        · by_cases hodd : z % 2 = 1
          · have b1 : (((z : Int) % 2) == 1) = true := by rw [beq_iff_eq]; omega
            have e2 := bits_xorP2 z hz
            have HN : Hid ((z / 2) ^^^ 3988292384 = stN (j + 1) y1) := st_odd HZ.out hodd
            have hl2 : (z / 2) ^^^ 3988292384 < 4294967296 := xor_lt (by omega) (by omega)
            generalize (z / 2) ^^^ 3988292384 = z2 at *
            clear hodd
            go_wp2
            go_round
            case rel => exact ⟨j + 1, z2, by omega, by go_num, rfl, hl2, HN⟩
            case measure => simp [intOf]; omega
          · have b1 : (((z : Int) % 2) == 1) = false := by rw [beq_eq_false_iff_ne]; omega
            have HN : Hid (z / 2 = stN (j + 1) y1) := st_even HZ.out hodd
            clear hodd
            go_wp2
            go_round
            case rel => exact ⟨j + 1, z / 2, by omega, by go_num, by go_num, by omega, HN⟩
            case measure => simp [intOf]; omega
        · have hj8 : j = 8 := by omega
          subst hj8
          have HN : Hid (z = refL s1 (l.take (k + 1))) := ref_round hu.out HY.out HY1.out HZ.out
          go_wp2
          go_round
          case rel => exact ⟨k + 1, z, by omega, by go_num, rfl, hz, HN⟩
          case measure => simp [intOf]; omega
    · have hkn : k = n := by omega
      subst hkn
      have e1 := bits_xorF y hy
      have HE : Hid (res = y ^^^ 4294967295) := ref_end HL.out HY.out HF.out
      generalize y ^^^ 4294967295 = r at *
      go_wp2
      go_ret
      exact ⟨by rw [HE.out]; rfl, rfl⟩

theorem sum_any (A : Option Addr) (n c : Nat) (l : List UInt8) (w : World) (hn : n ≤ 9223372036854775807) (hB : Bs w A n l) (ht : Tab w) :
    Calls Tryd.prog 12 #[.slice A n c] w fun e w' => e = .returned (.int .u32 (crcSum l : Int)) ∧ w = w' := by
  have H := Lib.hid (more_any 0 (by omega) A n c l w hn hB ht)
  go_enter Tryd.func12, Tryd.ntmps12
  go_wp2_with fail
  refine H.out.mono ?_
  rintro e w' ⟨rfl, rfl⟩
  go_wp2_with fail
  go_ret
  exact ⟨rfl, rfl⟩
theorem refSum_any (A : Option Addr) (n c : Nat) (l : List UInt8) (w : World) (hn : n ≤ 9223372036854775807) (hB : Bs w A n l) :
    Calls Tryd.prog 13 #[.slice A n c] w fun e w' => e = .returned (.int .u32 (crcSum l : Int)) ∧ w = w' := by
  have H := Lib.hid (refMore_any 0 (by omega) A n c l w hn hB)
  go_enter Tryd.func13, Tryd.ntmps13
  go_wp2_with fail
  refine H.out.mono ?_
  rintro e w' ⟨rfl, rfl⟩
  go_wp2_with fail
  go_ret
  exact ⟨rfl, rfl⟩
end Go.Proofs.YtgklbejnbplbgaaDoor
