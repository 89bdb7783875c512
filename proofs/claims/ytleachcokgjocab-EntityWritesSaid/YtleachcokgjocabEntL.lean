/-
  The run with which each statement on signs begins; EntitySigns, EntityReads, EntityWrites, EntityBoth: the walks.
-/
import Derived.Test.YtleachcokgjocabEntE
namespace Go.Proofs.Ytleachcokgjocab
open Go.RowKit Go.Nst
set_option maxRecDepth 100000
set_option linter.unusedVariables false
set_option linter.unusedSimpArgs false

theorem ml_of {W : World} (h : W.ShapedOpen Try.prog) : ML W := Try.laysM145.s1_3 W h
theorem l7_sign : signL [35, 56, 51, 54, 52] = some 8364 := by decide +kernel
theorem l7_none : signL [110, 98, 115, 112] = none := by decide +kernel
theorem l7_read : readL [97, 32, 38, 108, 116, 59, 32, 98, 32, 38, 35, 120, 52, 49, 59, 38, 110, 98, 115, 112, 59, 38] = [97, 32, 60, 32, 98, 32, 65, 38, 110, 98, 115, 112, 59, 38] := by decide +kernel
theorem l7_write : writeL [60, 97, 32, 98, 61, 39, 99, 39, 62, 38, 34] = [38, 108, 116, 59, 97, 32, 98, 61, 38, 97, 112, 111, 115, 59, 99, 38, 97, 112, 111, 115, 59, 38, 103, 116, 59, 38, 97, 109, 112, 59, 38, 113, 117, 111, 116, 59] := by decide +kernel
theorem l7_plain : plainB [97, 59, 98] = true := by decide +kernel
theorem l7_not : plainB [97, 38, 98] = false := by decide +kernel
theorem write_l (l : List UInt8) (w : World) (hl : l.length ≤ 1000000) : Calls Try.prog 12 #[.string ⟨l.toArray⟩] w (RetS w (writeL l)) := by
  have := write7_any ⟨l.toArray⟩ w (by rw [size_of]; exact hl)
  rwa [bl_of] at this

set_option maxHeartbeats 4000000 in
theorem lives07_any (w : World) (hM : ML w) : Calls Try.prog 7 #[] w (RetTrue w) := by
  go_enter Try.func7, Try.ntmps7
  go_wp2_with fail
  (with_reducible refine (sign_any [35, 56, 51, 54, 52] w (by decide)).mono ?_)
  rw [l7_sign]
  rintro e w1 ⟨rfl, B1⟩
  simp only [signV]
  go_wp2_with fail
  (with_reducible refine (sign_any [110, 98, 115, 112] w1 (by decide)).mono ?_)
  rw [l7_none]
  rintro e w2 ⟨rfl, hb⟩
  simp only [signV]
  have B2 := bel_step B1 hb
  clear hb
  go_wp2_with fail
  (with_reducible refine (read7_any [97, 32, 38, 108, 116, 59, 32, 98, 32, 38, 35, 120, 52, 49, 59, 38, 110, 98, 115, 112, 59, 38] w2 (by decide) (hM.below B2)).mono ?_)
  rw [l7_read]
  rintro e w3 ⟨rfl, hb⟩
  have B3 := bel_step B2 hb
  clear hb
  go_wp2_with fail
  (with_reducible refine (write_l [60, 97, 32, 98, 61, 39, 99, 39, 62, 38, 34] w3 (by decide)).mono ?_)
  rw [l7_write]
  rintro e w4 ⟨rfl, hb⟩
  have B4 := bel_step B3 hb
  clear hb
  go_wp2_with fail
  (with_reducible refine (plain7_any [97, 59, 98] w4 (by decide)).mono ?_)
  rw [l7_plain]
  rintro e w5 ⟨rfl, hb⟩
  have B5 := bel_step B4 hb
  clear hb
  go_wp2_with fail
  (with_reducible refine (plain7_any [97, 38, 98] w5 (by decide)).mono ?_)
  rw [l7_not]
  rintro e w6 ⟨rfl, hb⟩
  have B6 := bel_step B5 hb
  clear hb
  go_wp2_with fail
  go_ret
  exact ⟨rfl, B6⟩

set_option maxHeartbeats 4000000 in
theorem entitySigns_walk (s : ByteArray) (w : World) (hs : s.size ≤ 9223372036854775807) (hM : ML w) : Calls Try.prog 3 #[.string s] w (RetTrue w) := by
  obtain ⟨l, rfl⟩ : ∃ l, s = ⟨l.toArray⟩ := ⟨bl s, (bl_mk s).symm⟩
  rw [size_of] at hs
  by_cases h3 : 1000 < l.length
  · have d1 : decide (1000 < (l.length : Int)) = true := by simp; omega
    go_enter Try.func3, Try.ntmps3
    go_wp2_with fail
    (with_reducible refine (lives07_any w hM).mono ?_)
    rintro e w1 ⟨rfl, hb⟩
    go_wp2_with fail
    go_ret
    exact ⟨rfl, hb⟩
  have d1 : decide (1000 < (l.length : Int)) = false := by simp; omega
  have H1 := Lib.hid (sign_any l w (by omega))
  have H2 := Lib.hid (fun W => refSign_any ⟨l.toArray⟩ W (by rw [size_of]; omega))
  rw [bl_of] at H2
  generalize signL l = r at *
  cases r with
  | none =>
    simp only [signV] at H1 H2
    go_enter Try.func3, Try.ntmps3
    go_wp2_with fail
    (with_reducible refine (H1.out).mono ?_)
    rintro e w1 ⟨rfl, B1⟩
    go_wp2_with fail
    (with_reducible refine (H2.out _).mono ?_)
    rintro e w2 ⟨rfl, rfl⟩
    go_wp2_with fail
    (with_reducible refine (lives07_any w1 (hM.below B1)).mono ?_)
    rintro e w3 ⟨rfl, hb⟩
    go_wp2_with fail
    go_ret
    exact ⟨rfl, bel_step B1 hb⟩
  | some c =>
    simp only [signV] at H1 H2
    go_enter Try.func3, Try.ntmps3
    go_wp2_with fail
    (with_reducible refine (H1.out).mono ?_)
    rintro e w1 ⟨rfl, B1⟩
    go_wp2_with fail
    (with_reducible refine (H2.out _).mono ?_)
    rintro e w2 ⟨rfl, rfl⟩
    go_wp2_with fail
    (with_reducible refine (lives07_any w1 (hM.below B1)).mono ?_)
    rintro e w3 ⟨rfl, hb⟩
    go_wp2_with fail
    go_ret
    exact ⟨by simp, bel_step B1 hb⟩

set_option maxHeartbeats 4000000 in
theorem entityReads_walk (s : ByteArray) (w : World) (hs : s.size ≤ 9223372036854775807) (hM : ML w) : Calls Try.prog 4 #[.string s] w (RetTrue w) := by
  obtain ⟨l, rfl⟩ : ∃ l, s = ⟨l.toArray⟩ := ⟨bl s, (bl_mk s).symm⟩
  rw [size_of] at hs
  by_cases h3 : 2000 < l.length
  · have d1 : decide (2000 < (l.length : Int)) = true := by simp; omega
    go_enter Try.func4, Try.ntmps4
    go_wp2_with fail
    (with_reducible refine (lives07_any w hM).mono ?_)
    rintro e w1 ⟨rfl, hb⟩
    go_wp2_with fail
    go_ret
    exact ⟨rfl, hb⟩
  have d1 : decide (2000 < (l.length : Int)) = false := by simp; omega
  have H1 := Lib.hid (fun W (h : ML W) => read7_any l W (by omega) h)
  have H2 := Lib.hid (fun W => refRead7_any ⟨l.toArray⟩ W (by rw [size_of]; omega))
  rw [bl_of] at H2
  generalize readL l = r at *
  go_enter Try.func4, Try.ntmps4
  go_wp2_with fail
  (with_reducible refine (lives07_any w hM).mono ?_)
  rintro e w1 ⟨rfl, B1⟩
  go_wp2_with fail
  (with_reducible refine (H1.out w1 (hM.below B1)).mono ?_)
  rintro e w2 ⟨rfl, hb⟩
  have B2 := bel_step B1 hb
  clear hb
  go_wp2_with fail
  (with_reducible refine (H2.out w2).mono ?_)
  rintro e w3 ⟨rfl, hb⟩
  have B3 := bel_step B2 hb
  clear hb
  go_wp2_with fail
  go_ret
  exact ⟨by simp, B3⟩

set_option maxHeartbeats 4000000 in
theorem entityWrites_walk (s : ByteArray) (w : World) (hs : s.size ≤ 9223372036854775807) (hM : ML w) : Calls Try.prog 5 #[.string s] w (RetTrue w) := by
  obtain ⟨l, rfl⟩ : ∃ l, s = ⟨l.toArray⟩ := ⟨bl s, (bl_mk s).symm⟩
  rw [size_of] at hs
  by_cases h3 : 2000 < l.length
  · have d1 : decide (2000 < (l.length : Int)) = true := by simp; omega
    go_enter Try.func5, Try.ntmps5
    go_wp2_with fail
    (with_reducible refine (lives07_any w hM).mono ?_)
    rintro e w1 ⟨rfl, hb⟩
    go_wp2_with fail
    go_ret
    exact ⟨rfl, hb⟩
  have d1 : decide (2000 < (l.length : Int)) = false := by simp; omega
  have hwl := (writeL_len l).2
  have H1 := Lib.hid (write_l l w (by omega))
  have H2 := Lib.hid (fun W => refWrite7_any ⟨l.toArray⟩ W (by rw [size_of]; omega))
  rw [bl_of] at H2
  have H3 := Lib.hid (fun W (h : ML W) => read7_any (writeL l) W (by omega) h)
  rw [read_write] at H3
  have H4 := Lib.hid (fun W => plain7_any l W (by omega))
  have hp : (writeL l == l) = plainB l := rfl
  clear hwl
  generalize plainB l = pb at *
  generalize writeL l = x at *
  go_enter Try.func5, Try.ntmps5
  go_wp2_with fail
  (with_reducible refine (H1.out).mono ?_)
  rintro e w1 ⟨rfl, B1⟩
  go_wp2_with fail
  (with_reducible refine (lives07_any w1 (hM.below B1)).mono ?_)
  rintro e w2 ⟨rfl, hb⟩
  have B2 := bel_step B1 hb
  clear hb
  go_wp2_with fail
  (with_reducible refine (H2.out w2).mono ?_)
  rintro e w3 ⟨rfl, rfl⟩
  go_wp2_with fail
  (with_reducible refine (H3.out w2 (hM.below B2)).mono ?_)
  rintro e w4 ⟨rfl, hb⟩
  have B4 := bel_step B2 hb
  clear hb
  go_wp2_with fail
  (with_reducible refine (H4.out w4).mono ?_)
  rintro e w5 ⟨rfl, hb⟩
  have B5 := bel_step B4 hb
  clear hb
  go_wp2_with fail
  go_ret
  exact ⟨by simp, B5⟩

set_option maxHeartbeats 4000000 in
theorem entityBoth_walk (s t : ByteArray) (w : World) (hs : s.size ≤ 9223372036854775807) (ht : t.size ≤ 9223372036854775807) (hM : ML w) : Calls Try.prog 6 #[.string s, .string t] w (RetTrue w) := by
  obtain ⟨l, rfl⟩ : ∃ l, s = ⟨l.toArray⟩ := ⟨bl s, (bl_mk s).symm⟩
  obtain ⟨m, rfl⟩ : ∃ l, t = ⟨l.toArray⟩ := ⟨bl t, (bl_mk t).symm⟩
  rw [size_of] at hs ht
  by_cases h3 : 1000 < l.length
  · have d1 : decide (1000 < (l.length : Int)) = true := by simp; omega
    go_enter Try.func6, Try.ntmps6
    go_wp2_with fail
    (with_reducible refine (lives07_any w hM).mono ?_)
    rintro e w1 ⟨rfl, hb⟩
    go_wp2_with fail
    go_ret
    exact ⟨rfl, hb⟩
  have d1 : decide (1000 < (l.length : Int)) = false := by simp; omega
  by_cases h4 : 1000 < m.length
  · have d2 : decide (1000 < (m.length : Int)) = true := by simp; omega
    go_enter Try.func6, Try.ntmps6
    go_wp2_with fail
    (with_reducible refine (lives07_any w hM).mono ?_)
    rintro e w1 ⟨rfl, hb⟩
    go_wp2_with fail
    go_ret
    exact ⟨rfl, hb⟩
  have d2 : decide (1000 < (m.length : Int)) = false := by simp; omega
  have hab : ∀ x y : List UInt8, (ByteArray.mk x.toArray ++ ByteArray.mk y.toArray) = ⟨(x ++ y).toArray⟩ := fun x y => by
    rw [← bl_mk (ByteArray.mk x.toArray ++ ByteArray.mk y.toArray), bl_append, bl_of, bl_of]
  have hw1 := (writeL_len l).2
  have hw2 := (writeL_len m).2
  have H1 := Lib.hid (fun W => write_l (l ++ m) W (by simp; omega))
  rw [writeL_append] at H1
  have H2 := Lib.hid (fun W => write_l l W (by omega))
  have H3 := Lib.hid (fun W => write_l m W (by omega))
  have H4 := Lib.hid (fun W (h : ML W) => read7_any (writeL l ++ writeL m) W (by rw [List.length_append]; omega) h)
  rw [← writeL_append, read_write, writeL_append] at H4
  have H5 := Lib.hid (fun W => plain7_any (l ++ m) W (by simp; omega))
  rw [plainB_append] at H5
  have H6 := Lib.hid (fun W => plain7_any l W (by omega))
  have H7 := Lib.hid (fun W => plain7_any m W (by omega))
  have e1 := hab l m
  have e2 := hab (writeL l) (writeL m)
  have hx6 : (writeL l).length ≤ 6000 := by omega
  have hy6 : (writeL m).length ≤ 6000 := by omega
  clear hw1 hw2 hab
  generalize writeL l = x at *
  generalize writeL m = y at *
  generalize plainB l = p at *
  generalize plainB m = q at *
  cases p with
  | false =>
    go_enter Try.func6, Try.ntmps6
    go_wp2_with fail
    (with_reducible refine (lives07_any w hM).mono ?_)
    rintro e w1 ⟨rfl, B1⟩
    go_wp2_with fail
    (with_reducible refine (H1.out w1).mono ?_)
    rintro e w2 ⟨rfl, hb⟩
    have B2 := bel_step B1 hb
    clear hb
    go_wp2_with fail
    (with_reducible refine (H2.out w2).mono ?_)
    rintro e w3 ⟨rfl, hb⟩
    have B3 := bel_step B2 hb
    clear hb
    go_wp2_with fail
    (with_reducible refine (H3.out w3).mono ?_)
    rintro e w4 ⟨rfl, hb⟩
    have B4 := bel_step B3 hb
    clear hb
    go_wp2_with fail
    (with_reducible refine (H2.out w4).mono ?_)
    rintro e w5 ⟨rfl, hb⟩
    have B5 := bel_step B4 hb
    clear hb
    go_wp2_with fail
    (with_reducible refine (H3.out w5).mono ?_)
    rintro e w6 ⟨rfl, hb⟩
    have B6 := bel_step B5 hb
    clear hb
    go_wp2_with fail
    (with_reducible refine (H4.out w6 (hM.below B6)).mono ?_)
    rintro e w7 ⟨rfl, hb⟩
    have B7 := bel_step B6 hb
    clear hb
    go_wp2_with fail
    (with_reducible refine (H5.out w7).mono ?_)
    rintro e w8 ⟨rfl, hb⟩
    have B8 := bel_step B7 hb
    clear hb
    go_wp2_with fail
    (with_reducible refine (H6.out w8).mono ?_)
    rintro e w9 ⟨rfl, hb⟩
    have B9 := bel_step B8 hb
    clear hb
    go_wp2_with fail
    go_ret
    exact ⟨by simp, B9⟩
  | true =>
    go_enter Try.func6, Try.ntmps6
    go_wp2_with fail
    (with_reducible refine (lives07_any w hM).mono ?_)
    rintro e w1 ⟨rfl, B1⟩
    go_wp2_with fail
    (with_reducible refine (H1.out w1).mono ?_)
    rintro e w2 ⟨rfl, hb⟩
    have B2 := bel_step B1 hb
    clear hb
    go_wp2_with fail
    (with_reducible refine (H2.out w2).mono ?_)
    rintro e w3 ⟨rfl, hb⟩
    have B3 := bel_step B2 hb
    clear hb
    go_wp2_with fail
    (with_reducible refine (H3.out w3).mono ?_)
    rintro e w4 ⟨rfl, hb⟩
    have B4 := bel_step B3 hb
    clear hb
    go_wp2_with fail
    (with_reducible refine (H2.out w4).mono ?_)
    rintro e w5 ⟨rfl, hb⟩
    have B5 := bel_step B4 hb
    clear hb
    go_wp2_with fail
    (with_reducible refine (H3.out w5).mono ?_)
    rintro e w6 ⟨rfl, hb⟩
    have B6 := bel_step B5 hb
    clear hb
    go_wp2_with fail
    (with_reducible refine (H4.out w6 (hM.below B6)).mono ?_)
    rintro e w7 ⟨rfl, hb⟩
    have B7 := bel_step B6 hb
    clear hb
    go_wp2_with fail
    (with_reducible refine (H5.out w7).mono ?_)
    rintro e w8 ⟨rfl, hb⟩
    have B8 := bel_step B7 hb
    clear hb
    go_wp2_with fail
    (with_reducible refine (H6.out w8).mono ?_)
    rintro e w9 ⟨rfl, hb⟩
    have B9 := bel_step B8 hb
    clear hb
    go_wp2_with fail
    (with_reducible refine (H7.out w9).mono ?_)
    rintro e w10 ⟨rfl, hb⟩
    have B10 := bel_step B9 hb
    clear hb
    go_wp2_with fail
    go_ret
    exact ⟨by simp, B10⟩
end Go.Proofs.Ytleachcokgjocab
