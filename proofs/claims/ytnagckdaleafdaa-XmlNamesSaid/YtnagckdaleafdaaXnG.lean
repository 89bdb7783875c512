/-
  XmlTokens, XmlWrites, XmlNames: the walks.
-/
import Derived.Test.YtnagckdaleafdaaXnF
import Derived.Shelf.Vars
namespace Go.Proofs.Ytnagckdaleafdaa
open Go.RowKit Go.Nst
set_option maxRecDepth 100000
set_option linter.unusedVariables false
set_option linter.unusedSimpArgs false

theorem ml_of8 {W : World} (h : W.ShapedOpen Try.prog) : ML W := cell_of_shapedOpen_int (zero := #[.int .i64 0]) (t := 3) h (of_decide_eq_true (by kernel_rfl)) (by kernel_rfl) rfl (by kernel_rfl) (by kernel_rfl) Try.underlying3
set_option maxHeartbeats 4000000 in
theorem Tokens8_long (s : List UInt8) (w : World) (h1 : 65536 < s.length) (hs : s.length ≤ 9223372036854775807) :
    Calls Try.prog 8 #[.string ⟨s.toArray⟩] w (RetTok w ([], 0, 3)) := by
  have hd : decide ((65536 : Int) < (s.length : Int)) = true := by simp; omega
  go_enter Try.func8, Try.ntmps8
  go_wp2_with fail
  go_ret3
  exact ⟨none, 0, 0, rfl, RwA.nil _, Nat.le_refl _, by omega, Below.refl _ _⟩
set_option maxHeartbeats 4000000 in
theorem xmlTokens_walk (s : ByteArray) (w : World) (hs : s.size ≤ 9223372036854775807) (hM : ML w) : Calls Try.prog 3 #[.string s] w (RetTrue w) := by
  obtain ⟨l, rfl⟩ : ∃ l, s = ⟨l.toArray⟩ := ⟨bl s, (bl_mk s).symm⟩
  rw [size_of] at hs
  by_cases h3 : 3000 < l.length
  · have d1 : decide (3000 < (l.length : Int)) = true := by simp; omega
    go_enter Try.func3, Try.ntmps3
    go_wp2_with fail
    (with_reducible refine (lives08_any w hM).mono ?_)
    rintro e w1 ⟨rfl, hb⟩
    go_wp2_with fail
    go_ret
    exact ⟨rfl, hb⟩
  have d1 : decide (3000 < (l.length : Int)) = false := by simp; omega
  have H1 := Lib.hid (Tokens8_any l w hM (by omega))
  have H2 := Lib.hid (fun W => refTokens8_any l W (by omega))
  generalize tokD l = r at *
  obtain ⟨ts, p, er⟩ := r
  go_enter Try.func3, Try.ntmps3
  go_wp2_with fail
  (with_reducible refine (H1.out).mono ?_)
  rintro e w1 ⟨A, n, c, he, HA, hn1, hn2, B1⟩
  simp only at he HA
  subst he
  have HA1 := Lib.hid HA
  clear HA H1
  go_wp2_with fail
  (with_reducible refine (H2.out _).mono ?_)
  rintro e w2 ⟨A2, n2, c2, he, HB, hm1, hm2, hb⟩
  simp only at he HB
  subst he
  have B2 := bel_step B1 hb
  have HA2 := Lib.hid (HA1.out.bel xtP hb)
  have HB2 := Lib.hid HB
  clear HB hb HA1 B1 H2
  go_wp2_with fail
  (with_reducible refine (lives08_any w2 (hM.below B2)).mono ?_)
  rintro e w3 ⟨rfl, hb⟩
  have B3 := bel_step B2 hb
  have HA3 := Lib.hid (HA2.out.bel xtP hb)
  have HB3 := Lib.hid (HB2.out.bel xtP hb)
  clear hb HA2 HB2 B2
  go_wp2_with fail
  (with_reducible refine (refSame8_any ts ts A A2 n n2 c c2 _ _ _ HA3.out HB3.out ⟨hn1, hn2⟩ ⟨hm1, hm2⟩).mono ?_)
  rintro e w4 ⟨rfl, hb⟩
  go_wp2_with fail
  go_ret
  exact ⟨by simp, bel_step B3 hb⟩

set_option maxHeartbeats 8000000 in
theorem xmlWrites_walk (l : List Xtk) (A : Option Addr) (n c : Nat) (w : World) (S : Nat → Prop) (hk : XtA w S A n l) (hn : n ≤ c) (hc : c ≤ 9223372036854775807) (hM : ML w) : Calls Try.prog 4 #[.slice A n c] w (RetTrue w) := by
  have HK := Lib.hid hk
  have HLN := Lib.hid hk.len
  have HL := Lib.hid (refLarge8_any l A n c w S hk ⟨hn, hc⟩)
  clear hk
  go_enter Try.func4, Try.ntmps4
  go_wp2_with fail
  (with_reducible refine (HL.out).mono ?_)
  rintro e w0 ⟨rfl, b, rfl, hb⟩
  cases b with
  | true =>
    go_wp2_with fail
    (with_reducible refine (lives08_any _ hM).mono ?_)
    rintro e w1 ⟨rfl, hb1⟩
    go_wp2_with fail
    go_ret
    exact ⟨rfl, hb1⟩
  | false =>
    have HSM := Lib.hid (hb rfl)
    have hwl := wrD_sm HSM.out l.length
    rw [List.take_length] at hwl
    have hl300 := HSM.out.1
    have H1 := Lib.hid (Write8_any l A n c w0 S HK.out ⟨hn, hc⟩ HSM.out)
    have H2 := Lib.hid (fun W (h : XtA W S A n l) => refMay8_any l A n c W S h ⟨hn, hc⟩ (fun t ht => by
      have := HSM.out.2 t ht
      refine ⟨by have := this.1; omega, by have := this.2.2.1; omega, fun a ha => ?_⟩
      have := (this.2.2.2 a ha).1
      omega))
    have H3 := Lib.hid (fun W (h : XtA W S A n l) => refWrite8_any l A n c W S h ⟨hn, hc⟩ HSM.out)
    have HV : Hid (wrV l = if mayD 0 l then .tuple #[.string ⟨(wrD l).toArray⟩, .int .i64 0] else .tuple #[.string ⟨#[]⟩, .int .i64 1]) := Lib.hid rfl
    have HRW : Hid (mayD 0 l = true → (wrD l).length ≤ 65536 → tokD (wrD l) = (l, ((wrD l).length : Int), 0)) := Lib.hid (fun h1 h2 => read_written h1 (by omega) h2)
    clear hb HL
    generalize mayD 0 l = my at *
    generalize wrD l = x at *
    cases my with
    | false =>
      rw [HV.out] at H1
      simp only [Bool.false_eq_true, if_false] at H1
      clear HV HRW
      go_wp2_with fail
      (with_reducible refine (H1.out).mono ?_)
      rintro e w1 ⟨rfl, B1⟩
      go_wp2_with fail
      (with_reducible refine (lives08_any w1 (hM.below B1)).mono ?_)
      rintro e w2 ⟨rfl, hb⟩
      have B2 := bel_step B1 hb
      clear hb
      go_wp2_with fail
      (with_reducible refine (H2.out w2 (HK.out.bel xtP B2)).mono ?_)
      rintro e w3 ⟨rfl, hb⟩
      have B3 := bel_step B2 hb
      clear hb
      go_wp2_with fail
      go_ret
      exact ⟨by first | rfl | simp, B3⟩
    | true =>
      rw [HV.out] at H1
      simp only [if_true] at H1
      clear HV
      by_cases hx : 65536 < x.length
      · have d1 : decide (65536 < (x.length : Int)) = true := by simp; omega
        clear HRW
        go_wp2_with fail
        (with_reducible refine (H1.out).mono ?_)
        rintro e w1 ⟨rfl, B1⟩
        go_wp2_with fail
        (with_reducible refine (lives08_any w1 (hM.below B1)).mono ?_)
        rintro e w2 ⟨rfl, hb⟩
        have B2 := bel_step B1 hb
        clear hb
        go_wp2_with fail
        (with_reducible refine (H2.out w2 (HK.out.bel xtP B2)).mono ?_)
        rintro e w3 ⟨rfl, hb⟩
        have B3 := bel_step B2 hb
        clear hb
        go_wp2_with fail
        (with_reducible refine (H3.out w3 (HK.out.bel xtP B3)).mono ?_)
        rintro e w4 ⟨rfl, hb⟩
        have B4 := bel_step B3 hb
        clear hb
        go_wp2_with fail
        (with_reducible refine (Tokens8_long x w4 hx (by omega)).mono ?_)
        rintro e w5 ⟨A2, n2, c2, he, -, hm1, hm2, hb⟩
        simp only at he
        subst he
        have B5 := bel_step B4 hb
        clear hb
        go_wp2_with fail
        go_ret
        exact ⟨by first | rfl | simp, B5⟩
      · have d1 : decide (65536 < (x.length : Int)) = false := by simp; omega
        have H4 := Lib.hid (fun W (h : ML W) => Tokens8_any x W h (by omega))
        rw [HRW.out rfl (by omega)] at H4
        clear HRW
        go_wp2_with fail
        (with_reducible refine (H1.out).mono ?_)
        rintro e w1 ⟨rfl, B1⟩
        go_wp2_with fail
        (with_reducible refine (lives08_any w1 (hM.below B1)).mono ?_)
        rintro e w2 ⟨rfl, hb⟩
        have B2 := bel_step B1 hb
        clear hb
        go_wp2_with fail
        (with_reducible refine (H2.out w2 (HK.out.bel xtP B2)).mono ?_)
        rintro e w3 ⟨rfl, hb⟩
        have B3 := bel_step B2 hb
        clear hb
        go_wp2_with fail
        (with_reducible refine (H3.out w3 (HK.out.bel xtP B3)).mono ?_)
        rintro e w4 ⟨rfl, hb⟩
        have B4 := bel_step B3 hb
        clear hb
        go_wp2_with fail
        (with_reducible refine (H4.out w4 (hM.below B4)).mono ?_)
        rintro e w5 ⟨A2, n2, c2, he, HB, hm1, hm2, hb⟩
        simp only at he HB
        subst he
        have B5 := bel_step B4 hb
        have HB5 := Lib.hid HB
        clear hb HB
        have HK5 := Lib.hid (HK.out.bel xtP B5)
        go_wp2_with fail
        (with_reducible refine (refSame8_any l l A2 A n2 n c2 c _ _ _ HB5.out HK5.out ⟨hm1, hm2⟩ ⟨hn, hc⟩).mono ?_)
        rintro e w6 ⟨rfl, hb⟩
        go_wp2_with fail
        go_ret
        exact ⟨by simp, bel_step B5 hb⟩

set_option maxHeartbeats 8000000 in
theorem xmlNames_walk (s : ByteArray) (l l2 : List Xtk) (A A2 : Option Addr) (n c n2 c2 : Nat) (w : World) (S S2 : Nat → Prop) (hs : s.size ≤ 9223372036854775807) (hk : XtA w S A n l) (hn : n ≤ c) (hc : c ≤ 9223372036854775807) (hk2 : XtA w S2 A2 n2 l2) (hn2 : n2 ≤ c2) (hc2 : c2 ≤ 9223372036854775807) (hM : ML w) :
    Calls Try.prog 5 #[.string s, .slice A n c, .slice A2 n2 c2] w (RetTrue w) := by
  obtain ⟨x, rfl⟩ : ∃ l, s = ⟨l.toArray⟩ := ⟨bl s, (bl_mk s).symm⟩
  rw [size_of] at hs
  have HK := Lib.hid hk
  have HK2 := Lib.hid hk2
  have HL := Lib.hid (refLarge8_any l A n c w S hk ⟨hn, hc⟩)
  have HL2 := Lib.hid (refLarge8_any l2 A2 n2 c2 w S2 hk2 ⟨hn2, hc2⟩)
  have HM := Lib.hid hM
  clear hk hk2 hM
  have fin : ∀ {a b : World}, Below a.heap.size a b → True := fun _ => trivial
  by_cases h3 : 1000 < x.length
  · have d1 : decide (1000 < (x.length : Int)) = true := by simp; omega
    go_enter Try.func5, Try.ntmps5
    go_wp2_with fail
    (with_reducible refine (lives08_any w HM.out).mono ?_)
    rintro e w1 ⟨rfl, hb⟩
    go_wp2_with fail
    go_ret
    exact ⟨rfl, hb⟩
  have d1 : decide (1000 < (x.length : Int)) = false := by simp; omega
  have H1 := Lib.hid (fun W => Name8_any x W (by omega))
  have H2 := Lib.hid (fun W => refNameT8_any x W (by omega))
  go_enter Try.func5, Try.ntmps5
  go_wp2_with fail
  (with_reducible refine (HL.out).mono ?_)
  rintro e w0 ⟨rfl, b, rfl, -⟩
  cases b with
  | true =>
    go_wp2_with fail
    (with_reducible refine (lives08_any _ HM.out).mono ?_)
    rintro e w1 ⟨rfl, hb1⟩
    go_wp2_with fail
    go_ret
    exact ⟨rfl, hb1⟩
  | false =>
    go_wp2_with fail
    (with_reducible refine (HL2.out).mono ?_)
    rintro e w1 ⟨rfl, b, rfl, -⟩
    cases b with
    | true =>
      go_wp2_with fail
      (with_reducible refine (lives08_any _ HM.out).mono ?_)
      rintro e w1 ⟨rfl, hb1⟩
      go_wp2_with fail
      go_ret
      exact ⟨rfl, hb1⟩
    | false =>
      go_wp2_with fail
      (with_reducible refine (lives08_any _ HM.out).mono ?_)
      rintro e w1 ⟨rfl, B1⟩
      go_wp2_with fail
      (with_reducible refine (H1.out w1).mono ?_)
      rintro e w2 ⟨rfl, hb⟩
      have B2 := bel_step B1 hb
      clear hb
      go_wp2_with fail
      (with_reducible refine (H2.out w2).mono ?_)
      rintro e w3 ⟨rfl, hb⟩
      have B3 := bel_step B2 hb
      clear hb
      generalize isName x = nb at *
      have hnb : (nb == nb) = true := by simp
      have HS := Lib.hid (Same8_any l l2 A A2 n n2 c c2 w3 S S2 (HK.out.bel xtP B3) (HK2.out.bel xtP B3) ⟨hn, hc⟩ ⟨hn2, hc2⟩)
      go_wp2_with fail
      (with_reducible refine (HS.out).mono ?_)
      rintro e w4 ⟨rfl, hb⟩
      have B4 := bel_step B3 hb
      have HR := Lib.hid (refSame8_any l l2 A A2 n n2 c c2 w4 S S2 (HK.out.bel xtP B4) (HK2.out.bel xtP B4) ⟨hn, hc⟩ ⟨hn2, hc2⟩)
      clear hb HS
      go_wp2_with fail
      (with_reducible refine (HR.out).mono ?_)
      rintro e w5 ⟨rfl, hb⟩
      go_wp2_with fail
      go_ret
      exact ⟨by simp, bel_step B4 hb⟩
end Go.Proofs.Ytnagckdaleafdaa
