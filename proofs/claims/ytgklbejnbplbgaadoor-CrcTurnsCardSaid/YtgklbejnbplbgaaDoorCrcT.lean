/-
  The reference's Turn; CrcTurns: the walk.
-/
import Derived.Test.YtgklbejnbplbgaaDoorCrcTurnP
import Derived.BigRegion
namespace Go.Proofs.YtgklbejnbplbgaaDoor
open Go.RowKit Go.Nst
set_option maxRecDepth 100000

theorem turn_bit (t k : Nat) (ht : t < 4294967296) : bits .and .u32 ((t : Int) / 2 ^ k) 1 = ((t / 2 ^ k % 2 : Nat) : Int) := by
  have h1 : t / 2 ^ k < 4294967296 := Nat.lt_of_le_of_lt (Nat.div_le_self _ _) ht
  have := u32_and_nat (t / 2 ^ k) 1 h1 (by omega)
  rw [nat_mask1] at this
  rw [← this]
  simp
theorem turn_xor (u : UInt8) (r : Nat) (hr : r < 8) : bits .xor .u8 (u.toNat : Int) (2 ^ r % 256) = ((UInt8.ofNat (u.toNat ^^^ 2 ^ r)).toNat : Int) := by
  have hu := u.toNat_lt
  have h2 : (2 : Nat) ^ r < 2 ^ 8 := Nat.pow_lt_pow_right (by omega) hr
  have h3 : u.toNat ^^^ 2 ^ r < 256 := Nat.xor_lt_two_pow (n := 8) (by omega) h2
  have := u8_xor_nat u.toNat (2 ^ r) (by omega) h2
  rw [UInt8.toNat_ofNat', Nat.mod_eq_of_lt (by omega), ← this]
  congr 1
  have e : ((2 ^ r : Nat) : Int) = 2 ^ r := by simp
  rw [← e]
  generalize 2 ^ r = x at *
  omega

def RetT2 (w : World) (n N : Nat) (e : Ending) (w' : World) : Prop := ∃ l, RetB w l e w' ∧ l.length = n ∧ leN l = N

set_option maxHeartbeats 1000000 in
theorem turn_any (A : Option Addr) (n c : Nat) (l : List UInt8) (at_ t : Nat) (w : World) (hn : n ≤ 100000) (hB : Bs w A n l) (hat : at_ + 32 ≤ 8 * n) (htl : t < 4294967296) :
    Calls Tryd.prog 20 #[.slice A n c, .int .i64 at_, .int .u32 t] w (RetT2 w n (leN l ^^^ (2 ^ at_ * t))) := by
  have hO : Ow (w.alloc (.cells #[] 5)) w.heap.size (some ⟨w.heap.size, 0, none⟩) 0 0 [] := Ow.made w [] #[] rfl (by simp [maxLen]) (Nat.le_refl _)
  have hB1 := hB.alloc (.cells #[] 5)
  go_enter Tryd.func20, Tryd.ntmps20
  go_wp2_with (at_builtin; have _t := hO; refine wpList_appBg _ iBytes rfl rfl rfl hO rfl hB1 n l (by simp) rfl (by omega) (by simp) ?_; intro A1 c1 w1 ho1 hb _ _; clear hO _t; have hb1 : Below w.heap.size w w1 := ((Below.refl _ _).alloc (Nat.le_refl _) _).trans hb)
  clear hB1 hb
  go_loopw [8] (fun i wr => ∃ (k : Nat) (lk : List UInt8), k ≤ 32 ∧ i = .int .i64 k ∧ Ow wr w.heap.size A1 n c1 lk ∧ Below w.heap.size w wr ∧ Hid (leN lk = leN l ^^^ (2 ^ at_ * (t % 2 ^ k)))) (fun i _ => 32 - (intOf i).toNat)
  case atStart => exact ⟨0, l, by omega, rfl, ho1, hb1, by rw [Nat.pow_zero, Nat.mod_one, Nat.mul_zero, Nat.xor_zero]; exact Lib.hid rfl⟩
  case round =>
    clear ho1
    obtain ⟨k, lk, hk, rfl, hok, hbw, HK⟩ := hrel
    by_cases hlt : k < 32
    · have hj : (at_ + k) / 8 < n := by omega
      obtain ⟨g, rfl, hg⟩ := hok.form (by omega)
      obtain ⟨u, hu, hc, hfz, h256⟩ := hok.cellAt hj
      have b0 : (0 : Int) ≤ ((at_ + k) / 8 : Nat) := by omega
      have b1 : ((at_ : Int) + k) / 8 < n := by omega
      have e1 := turn_bit t k htl
      have hd : decide ((at_ : Int) + k < 8 * n) = true := by simp; omega
      by_cases hbit : t / 2 ^ k % 2 = 1
      · rw [hbit] at e1
        have HN : Hid (leN (lk.set ((at_ + k) / 8) (UInt8.ofNat (u.toNat ^^^ 2 ^ ((at_ + k) % 8)))) = leN l ^^^ (2 ^ at_ * (t % 2 ^ (k + 1)))) := turn_yes lk _ at_ t k _ _ rfl rfl u hu.out HK.out hbit
        have e2 := turn_xor u ((at_ + k) % 8) (by omega)
        generalize UInt8.ofNat (u.toNat ^^^ 2 ^ ((at_ + k) % 8)) = u' at *
        have hset := hok.set ((at_ + k) / 8) u'
        have hbset := hbw.setCell (p := ⟨g, (at_ + k) / 8, none⟩) hg (.int .u8 (u'.toNat : Int))
        clear hbit
        go_wp2_with fail
        go_region
        go_wp2_with fail
        go_roundw
        case rel => exact ⟨k + 1, _, by omega, by go_num, hset, hbset.drew, HN⟩
        case measure => simp [intOf]; omega
      · rw [show t / 2 ^ k % 2 = 0 by omega] at e1
        have HN : Hid (leN lk = leN l ^^^ (2 ^ at_ * (t % 2 ^ (k + 1)))) := turn_no lk _ at_ t k HK.out hbit
        clear hbit
        go_wp2_with fail
        go_roundw
        case rel => exact ⟨k + 1, lk, by omega, by go_num, hok, hbw, HN⟩
        case measure => simp [intOf]; omega
    · obtain rfl : k = 32 := by omega
      rw [Nat.mod_eq_of_lt (show t < 2 ^ 32 by omega)] at HK
      go_wp2_with fail
      try go_ret
      exact ⟨lk, RetB.of rfl hok hbw, hok.len, HK.out⟩

set_option maxHeartbeats 1000000 in
theorem crcTurns_walk (A : Option Addr) (n c : Nat) (l : List UInt8) (at_ : Int) (t : Nat) (w : World) (hB : Bs w A n l) (hn : n ≤ 9223372036854775807) (hat : -9223372036854775808 ≤ at_ ∧ at_ ≤ 9223372036854775807) (htl : t < 4294967296) (ht : Tab w) :
    Calls Tryd.prog 6 #[.slice A n c, .int .i64 at_, .int .u32 t] w (RetTrue w) := by
  by_cases hn3 : 3000 < n
  · go_enter Tryd.func6, Tryd.ntmps6
    go_wp2_with fail
    refine (lives02_any w ht).mono ?_
    rintro e w1 ⟨rfl, hb⟩
    go_wp2_with fail
    go_ret
    exact ⟨rfl, hb⟩
  have d1 : decide (3000 < (n : Int)) = false := by simp; omega
  by_cases ha0 : at_ < 0
  · go_enter Tryd.func6, Tryd.ntmps6
    go_wp2_with fail
    refine (lives02_any w ht).mono ?_
    rintro e w1 ⟨rfl, hb⟩
    go_wp2_with fail
    go_ret
    exact ⟨rfl, hb⟩
  have d2 : decide (at_ < 0) = false := by simp; omega
  by_cases ha1 : 8 * ((n : Int) + 4) - 32 < at_
  · go_enter Tryd.func6, Tryd.ntmps6
    go_wp2_with fail
    refine (lives02_any w ht).mono ?_
    rintro e w1 ⟨rfl, hb⟩
    go_wp2_with fail
    go_ret
    exact ⟨rfl, hb⟩
  have d3 : decide (8 * ((n : Int) + 4) - 32 < at_) = false := by simp; omega
  by_cases ht0 : t = 0
  · subst ht0
    go_enter Tryd.func6, Tryd.ntmps6
    go_wp2_with fail
    refine (lives02_any w ht).mono ?_
    rintro e w1 ⟨rfl, hb⟩
    go_wp2_with fail
    go_ret
    exact ⟨rfl, hb⟩
  have d4 : ((t : Int) == 0) = false := by rw [beq_eq_false_iff_ne]; omega
  obtain ⟨a, rfl⟩ := Int.eq_ofNat_of_zero_le (Int.not_lt.1 ha0)
  have HL := Lib.hid hB.len
  have HSL := Lib.hid (show (sealL l).length = n + 4 by have := hB.len; simp [sealL, wordL]; omega)
  have HT := Lib.hid (fun l' h1 h2 => turned_bad l l' a t ht0 htl h1 h2 (by have := hB.len; omega))
  have Hs := Lib.hid (refSeal_any A n c l w (by omega) hB)
  generalize sealL l = sl at *
  clear ht0
  go_enter Tryd.func6, Tryd.ntmps6
  go_wp2_with fail
  refine Hs.out.mono ?_
  rintro e w1 ⟨A1, n1, c1, rfl, ho1, hb1⟩
  obtain rfl : n1 = n + 4 := by rw [← ho1.len, HSL.out]
  go_wp2_with fail
  refine (turn_any A1 (n + 4) c1 sl a t w1 (by omega) ho1.bs (by omega) htl).mono ?_
  rintro e w2 ⟨l2, ⟨A2, n2, c2, rfl, ho2, hb2⟩, hl2, hn2⟩
  have HF : Hid ((openL l2).2 = false) := HT.out l2 (by rw [hl2, HSL.out]) hn2
  have hn2' : n2 ≤ 100000 := by rw [← ho2.len, hl2]; omega
  clear hl2 hn2
  have S2 := bel_step hb1 hb2
  go_wp2_with fail
  refine (open_any A2 n2 c2 l2 w2 (by omega) ho2.bs (ht.below S2) ho2.cap).mono ?_
  generalize openL l2 = r at *
  obtain ⟨r1, r2⟩ := r
  obtain rfl : r2 = false := HF.out
  rintro e w3 ⟨A3, n3, c3, rfl, ho3, hb3⟩
  have S3 := bel_step S2 hb3
  go_wp2_with fail
  refine (lives02_any w3 (ht.below S3)).mono ?_
  rintro e w4 ⟨rfl, hb4⟩
  go_wp2_with fail
  go_ret
  exact ⟨rfl, bel_step S3 hb4⟩
end Go.Proofs.YtgklbejnbplbgaaDoor
