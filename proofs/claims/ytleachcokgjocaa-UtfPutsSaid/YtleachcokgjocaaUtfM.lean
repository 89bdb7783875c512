/-
  UtfRunes, UtfPuts, UtfCleans, UtfCuts: the walks.
-/
import Derived.Test.YtleachcokgjocaaUtfL
import Derived.Test.YtleachcokgjocaaKit
namespace Go.Proofs.Ytleachcokgjocaa
open Go.RowKit Go.Nst
set_option maxRecDepth 100000
set_option linter.unusedVariables false
set_option linter.unusedSimpArgs false

set_option maxHeartbeats 4000000 in
theorem utfRunes_walk (s : ByteArray) (w : World) (hs : s.size ≤ 9223372036854775807) : Calls Try.prog 3 #[.string s] w (RetTrue w) := by
  by_cases h3 : 3000 < s.size
  · go_enter Try.func3, Try.ntmps3
    go_wp2_with fail
    refine (lives05_any w).mono ?_
    rintro e w1 ⟨rfl, hb⟩
    go_wp2_with fail
    go_ret
    exact ⟨rfl, hb⟩
  have d1 : decide (3000 < (s.size : Int)) = false := by simp; omega
  have hbl := bl_len s
  have HL := Lib.hid (runesI_len (bl s))
  have HLE := Lib.hid (runesI_le (bl s))
  have HR := Lib.hid (refRunes_any s w (by omega))
  have HR2 := Lib.hid (fun W => runes_any s W (by omega))
  have HC := Lib.hid (fun W => count_any s W (by omega))
  have HT := Lib.hid (fun W => right_any s W (by omega))
  have HT2 := Lib.hid (fun W => refRight_any s W (by omega))
  generalize rightL (bl s) = r at *
  generalize (runesL (bl s)).length = k at *
  generalize runesI (bl s) = rs at *
  go_enter Try.func3, Try.ntmps3
  go_wp2_with fail
  refine HR.out.mono ?_
  rintro e w1 ⟨A1, n1, c1, rfl, ho1, B1⟩
  have q1 := ho1.rn
  have hn1 : n1 = k := by rw [← q1.len]; exact HL.out
  have hle := HLE.out
  have hln := q1.len
  clear ho1
  subst hn1
  go_wp2_with fail
  refine (lives05_any w1).mono ?_
  rintro e w2 ⟨rfl, hb⟩
  have B2 := bel_step B1 hb
  have q1 := q1.below hb
  clear hb
  go_wp2_with fail
  refine (HR2.out w2).mono ?_
  rintro e w3 ⟨A3, n3, c3, rfl, ho3, hb⟩
  have q3 := ho3.rn
  have hl3 := q3.len
  have B3 := bel_step B2 hb
  have q1 := q1.below hb
  clear hb ho3
  go_wp2_with fail
  refine (same_l A3 A1 n3 c3 n1 c1 rs w3 q3 q1 (by omega) (by omega)).mono ?_
  rintro e w4 ⟨rfl, hb⟩
  have B4 := bel_step B3 hb
  clear hb q1 q3
  go_wp2_with fail
  refine (HC.out w4).mono ?_
  rintro e w5 ⟨rfl, hb⟩
  have B5 := bel_step B4 hb
  clear hb
  go_wp2_with fail
  refine (HT.out w5).mono ?_
  rintro e w6 ⟨rfl, hb⟩
  have B6 := bel_step B5 hb
  clear hb
  go_wp2_with fail
  refine (HT2.out w6).mono ?_
  rintro e w7 ⟨rfl, rfl⟩
  go_wp2_with fail
  go_ret
  exact ⟨by simp, B6⟩

theorem cleanT_again (l : List UInt8) : cleanT (cleanT l) = cleanT l := by
  unfold cleanT
  rw [runes_put_ok _ (clean_ok _ (runes_ok l)), clean_again]
theorem foldT_again (l : List UInt8) : foldT (foldT l) = foldT l := by
  unfold foldT
  rw [runes_put_ok _ (foldC_ok _ (runes_ok l)), List.map_map]
  congr 2
  funext c
  exact foldC_again c
theorem foldT_count (l : List UInt8) : (runesL (foldT l)).length = (runesL l).length := by
  rw [← runesI_len, ← runesI_len]
  unfold foldT
  rw [runes_put_ok _ (foldC_ok _ (runes_ok l)), List.length_map]
theorem cleanT_len (l : List UInt8) : (cleanT l).length ≤ 8 * l.length := by
  unfold cleanT
  have h1 := putR_len (cleanR (runesI l))
  have h2 := cleanF_len (runesI l)
  have h3 := runesI_le l
  have h4 : (cleanR (runesI l)).length = (cleanF (runesI l)).1.length := rfl
  omega
theorem foldT_len (l : List UInt8) : (foldT l).length ≤ 4 * l.length := by
  unfold foldT
  have h1 := putR_len ((runesI l).map foldC)
  rw [List.length_map] at h1
  have h3 := runesI_le l
  omega

set_option maxHeartbeats 4000000 in
theorem utfCleans_walk (s : ByteArray) (w : World) (hs : s.size ≤ 9223372036854775807) : Calls Try.prog 5 #[.string s] w (RetTrue w) := by
  by_cases h3 : 3000 < s.size
  · go_enter Try.func5, Try.ntmps5
    go_wp2_with fail
    refine (lives05_any w).mono ?_
    rintro e w1 ⟨rfl, hb⟩
    go_wp2_with fail
    go_ret
    exact ⟨rfl, hb⟩
  have d1 : decide (3000 < (s.size : Int)) = false := by simp; omega
  have hbl := bl_len s
  have hl1 := cleanT_len (bl s)
  have hl2 := foldT_len (bl s)
  have H1 := Lib.hid (fun W => clean_any s W (by omega))
  have H2 := Lib.hid (fun W => fold_any5 s W (by omega))
  have H3 := Lib.hid (fun W => refClean_any s W (by omega))
  have H4 := Lib.hid (fun W => refFold_any5 s W (by omega))
  have H5 := Lib.hid (fun W => clean_l (cleanT (bl s)) W (by omega))
  rw [cleanT_again] at H5
  have H6 := Lib.hid (fun W => fold_l (foldT (bl s)) W (by omega))
  rw [foldT_again] at H6
  have H7 := Lib.hid (fun W => right_l (cleanT (bl s)) W (by omega) true (right_put _))
  have H8 := Lib.hid (fun W => right_l (foldT (bl s)) W (by omega) true (right_put _))
  have H9 := Lib.hid (fun W => count_l (foldT (bl s)) W (by omega) _ (foldT_count _))
  have H10 := Lib.hid (fun W => count_any s W (by omega))
  clear hl1 hl2
  generalize cleanT (bl s) = c at *
  generalize foldT (bl s) = f at *
  generalize (runesL (bl s)).length = k at *
  go_enter Try.func5, Try.ntmps5
  go_wp2_with fail
  refine (H1.out w).mono ?_
  rintro e w1 ⟨rfl, B1⟩
  go_wp2_with fail
  refine (H2.out w1).mono ?_
  rintro e w2 ⟨rfl, hb⟩
  have B2 := bel_step B1 hb
  clear hb
  go_wp2_with fail
  refine (lives05_any w2).mono ?_
  rintro e w3 ⟨rfl, hb⟩
  have B3 := bel_step B2 hb
  clear hb
  go_wp2_with fail
  refine (H3.out w3).mono ?_
  rintro e w4 ⟨rfl, hb⟩
  have B4 := bel_step B3 hb
  clear hb
  go_wp2_with fail
  refine (H4.out w4).mono ?_
  rintro e w5 ⟨rfl, hb⟩
  have B5 := bel_step B4 hb
  clear hb
  go_wp2_with fail
  refine (H5.out w5).mono ?_
  rintro e w6 ⟨rfl, hb⟩
  have B6 := bel_step B5 hb
  clear hb
  go_wp2_with fail
  refine (H6.out w6).mono ?_
  rintro e w7 ⟨rfl, hb⟩
  have B7 := bel_step B6 hb
  clear hb
  go_wp2_with fail
  refine (H7.out w7).mono ?_
  rintro e w8 ⟨rfl, hb⟩
  have B8 := bel_step B7 hb
  clear hb
  go_wp2_with fail
  refine (H8.out w8).mono ?_
  rintro e w9 ⟨rfl, hb⟩
  have B9 := bel_step B8 hb
  clear hb
  go_wp2_with fail
  refine (H9.out w9).mono ?_
  rintro e w10 ⟨rfl, hb⟩
  have B10 := bel_step B9 hb
  clear hb
  go_wp2_with fail
  refine (H10.out w10).mono ?_
  rintro e w11 ⟨rfl, hb⟩
  have B11 := bel_step B10 hb
  clear hb
  go_wp2_with fail
  go_ret
  exact ⟨by simp, B11⟩

set_option maxHeartbeats 4000000 in
theorem utfCuts_walk (s : ByteArray) (n : Int) (w : World) (hs : s.size ≤ 9223372036854775807) (h0 : -9223372036854775808 ≤ n) (h1 : n ≤ 9223372036854775807) : Calls Try.prog 6 #[.string s, .int .i64 n] w (RetTrue w) := by
  by_cases h3 : 3000 < s.size
  · go_enter Try.func6, Try.ntmps6
    go_wp2_with fail
    refine (lives05_any w).mono ?_
    rintro e w1 ⟨rfl, hb⟩
    go_wp2_with fail
    go_ret
    exact ⟨rfl, hb⟩
  have d1 : decide (3000 < (s.size : Int)) = false := by simp; omega
  have hbl := bl_len s
  have hc := cutL_le (bl s) n
  have HC := Lib.hid (cut_any s n w (by omega) h0 h1)
  have HC2 := Lib.hid (fun W => refCut_any s n W (by omega) h0 h1)
  have hv : (⟨(cutT (bl s) n).toArray⟩ : ByteArray) = s.extract 0 (cutL (bl s) n) := (str_upto s _).symm
  rw [hv] at HC2
  unfold RetS at HC
  rw [hv] at HC
  clear hv
  rw [hbl] at hc
  have hz : (s.extract 0 (cutL (bl s) n)).size = cutL (bl s) n := by rw [← bl_len, bl_upto, List.length_take, hbl]; omega
  generalize cutL (bl s) n = k at *
  have HX : Hid (s.extract 0 s.size = s) := Lib.hid (by simp)
  obtain ⟨hk1, hk2, hk3⟩ := hc
  have HZ := Lib.hid hz
  by_cases hn : (s.size : Int) ≤ n
  · obtain rfl : k = s.size := hk3 hn
    rw [HX.out] at HC HC2
    clear hk2 hk3 hz HZ
    have d2 : decide (n < 0) = false := by simp; omega
    have d3 : decide (n < (s.size : Int)) = false := by simp; omega
    have d4 : decide ((s.size : Int) ≤ n) = true := by simp; omega
    have d5 : s.extract 0 s.size = s := HX.out
    go_enter Try.func6, Try.ntmps6
    go_wp2_with fail
    refine HC.out.mono ?_
    rintro e w1 ⟨rfl, B1⟩
    go_wp2_with fail
    refine (lives05_any w1).mono ?_
    rintro e w2 ⟨rfl, hb⟩
    have B2 := bel_step B1 hb
    clear hb
    go_wp2_with fail
    refine (HC2.out w2).mono ?_
    rintro e w3 ⟨rfl, rfl⟩
    go_wp2_with fail
    go_ret
    exact ⟨by simp, B2⟩
  clear hk3
  have hm : min k s.size = k := by omega
  have d3 : decide (n < (s.size : Int)) = true := by simp; omega
  have d6 : decide ((k : Int) ≤ (s.size : Int)) = true := by simp; omega
  by_cases hn0 : n < 0
  · go_enter Try.func6, Try.ntmps6
    go_wp2_with fail
    refine HC.out.mono ?_
    rintro e w1 ⟨rfl, B1⟩
    go_wp2_with fail
    refine (lives05_any w1).mono ?_
    rintro e w2 ⟨rfl, hb⟩
    have B2 := bel_step B1 hb
    clear hb
    go_wp2_with fail
    refine (HC2.out w2).mono ?_
    rintro e w3 ⟨rfl, rfl⟩
    go_wp2_with fail
    go_ret
    exact ⟨by simp, B2⟩
  · have d2 : decide (n < 0) = false := by simp; omega
    have hk2 := hk2 (by omega)
    have d4 : decide ((k : Int) ≤ n) = true := by simp; omega
    go_enter Try.func6, Try.ntmps6
    go_wp2_with fail
    refine HC.out.mono ?_
    rintro e w1 ⟨rfl, B1⟩
    go_wp2_with fail
    refine (lives05_any w1).mono ?_
    rintro e w2 ⟨rfl, hb⟩
    have B2 := bel_step B1 hb
    clear hb
    go_wp2_with fail
    refine (HC2.out w2).mono ?_
    rintro e w3 ⟨rfl, rfl⟩
    go_wp2_with fail
    go_ret
    exact ⟨by simp, B2⟩

theorem put_count (l : List Int) : (runesL (putR l)).length = l.length := by rw [← runesI_len, runes_put, List.length_map]
set_option maxHeartbeats 4000000 in
theorem utfPuts_walk (A : Option Addr) (n c : Nat) (l : List Int) (w : World) (hR : Rn w A n l) (hI : I32 l) (hn : n ≤ 9223372036854775807) : Calls Try.prog 4 #[.slice A n c] w (RetTrue w) := by
  by_cases h3 : 1000 < n
  · go_enter Try.func4, Try.ntmps4
    go_wp2_with fail
    refine (lives05_any w).mono ?_
    rintro e w1 ⟨rfl, hb⟩
    go_wp2_with fail
    go_ret
    exact ⟨rfl, hb⟩
  have d1 : decide (1000 < (n : Int)) = false := by simp; omega
  have hlen := hR.len
  have hpl := putR_len l
  have HI := Lib.hid hI
  clear hI
  have H1 := Lib.hid (fun W (hb : Below w.heap.size w W) => put5_any A n c l W (hR.below hb) HI.out (by omega))
  have H2 := Lib.hid (fun W (hb : Below w.heap.size w W) => refPut5_any A n c l W (hR.below hb) HI.out (by omega))
  have H3 := Lib.hid (fun W => right_l (putR l) W (by omega) true (right_put _))
  have H4 := Lib.hid (fun W => runes_l (putR l) W (by omega) _ rfl)
  have H5 := Lib.hid (fun W => refRunes_any ⟨(putR l).toArray⟩ W (by rw [size_of]; omega))
  rw [bl_of] at H5
  have H6 := Lib.hid (fun W => count_l (putR l) W (by omega) n (by rw [put_count]; exact hlen))
  have hrl := runesI_le (putR l)
  generalize runesI (putR l) = rs at *
  generalize putR l = p at *
  go_enter Try.func4, Try.ntmps4
  go_wp2_with fail
  refine (H1.out w (Below.refl _ _)).mono ?_
  rintro e w1 ⟨rfl, B1⟩
  go_wp2_with fail
  refine (lives05_any w1).mono ?_
  rintro e w2 ⟨rfl, hb⟩
  have B2 := bel_step B1 hb
  clear hb
  go_wp2_with fail
  refine (H2.out w2 B2).mono ?_
  rintro e w3 ⟨rfl, hb⟩
  have B3 := bel_step B2 hb
  clear hb
  go_wp2_with fail
  refine (H3.out w3).mono ?_
  rintro e w4 ⟨rfl, hb⟩
  have B4 := bel_step B3 hb
  clear hb
  go_wp2_with fail
  go_loopw [4] (fun i wr => ∃ k : Nat, i = .int .i64 (k : Int) ∧ k ≤ n ∧ Below w.heap.size w wr) (fun i _ => n - (intOf i).toNat)
  case atStart => exact ⟨0, rfl, by omega, B4⟩
  case round =>
    obtain ⟨k, rfl, hk, hbw⟩ := hrel
    by_cases hlt : k < n
    · obtain ⟨z, b, off, rfl, hz, hb, hc⟩ := Rn.at (hR.below hbw) hlt
      cases hbl : blankB z
      · have Ha := Lib.hid (fun W => blank_no z W hbl)
        have Hb := Lib.hid (fun W => refBlank_no z W hbl)
        clear hbl
        go_wp2_with fail
        go_quiet (first | (go_at_call 16; exact quiet_same (Ha.out _)) | (go_at_call 17; exact quiet_same (Hb.out _)))
        go_wp2_with fail
        go_roundw
        case rel => exact ⟨k + 1, by go_num, by omega, below_drewN hbw _⟩
        case measure => simp [intOf]; omega
      · have Ha := Lib.hid (fun W => blank_yes z W hbl)
        have Hb := Lib.hid (fun W => refBlank_yes z W hbl)
        clear hbl
        go_wp2_with fail
        go_quiet (first | (go_at_call 16; exact quiet_same (Ha.out _)) | (go_at_call 17; exact quiet_same (Hb.out _)))
        go_wp2_with fail
        go_roundw
        case rel => exact ⟨k + 1, by go_num, by omega, below_drewN hbw _⟩
        case measure => simp [intOf]; omega
    · go_wp2_with fail
      refine (H4.out wr).mono ?_
      rintro e w5 ⟨A5, n5, c5, rfl, ho5, hb⟩
      have B5 := bel_step hbw hb
      have q5 := ho5.rn
      have hl5 := q5.len
      clear hb ho5
      go_wp2_with fail
      refine (H5.out w5).mono ?_
      rintro e w6 ⟨A6, n6, c6, rfl, ho6, hb⟩
      have B6 := bel_step B5 hb
      have q5 := q5.below hb
      have q6 := ho6.rn
      have hl6 := q6.len
      clear hb ho6
      go_wp2_with fail
      refine (same_l A5 A6 n5 c5 n6 c6 rs w6 q5 q6 (by omega) (by omega)).mono ?_
      rintro e w7 ⟨rfl, hb⟩
      have B7 := bel_step B6 hb
      clear hb
      go_wp2_with fail
      refine (H6.out w7).mono ?_
      rintro e w8 ⟨rfl, hb⟩
      have B8 := bel_step B7 hb
      clear hb
      go_wp2_with fail
      go_ret
      exact ⟨by simp, B8⟩
end Go.Proofs.Ytleachcokgjocaa
