/-
  The reference's reader.
-/
import Derived.Test.YtgklbejnbplbgaaRead3
import Derived.Test.YtgklbejnbplbgaaNumH
import Derived.BigQuiet
import Derived.Deep.QuietTactic
namespace Go.Proofs.Ytgklbejnbplbgaa
open Go.RowKit Go.Nst
set_option maxRecDepth 100000
set_option linter.unusedVariables false

theorem refTake_any (g : Nat) (s : RS) (k : Int) (w : World) (hR : RdT 47 w g s) :
    Calls Try.prog 33 #[.pointer (some ⟨g, 0, none⟩), .int .i64 k] w (RetTT 47 w g (s.take k)) := by
  obtain ⟨A, n, c, hblk, hB, hnc, hn⟩ := hR
  have c0 : w.cell? ⟨g, 0, none⟩ = some (.slice A n c) := hblk.cell 0
  have c1 : w.cell? ⟨g, 1, none⟩ = some (.bool s.bad) := hblk.cell 1
  have f0 := hblk.frozen 0
  have f1 := hblk.frozen 1
  obtain ⟨sl, sb⟩ := s
  simp only at *
  have HB := Lib.hid hblk
  cases sb with
  | true =>
    go_enter Try.func33, Try.ntmps33
    go_wp2_with fail
    go_ret
    exact take_bad rfl HB.out hB hnc hn (.inl rfl)
  | false =>
    by_cases h0 : k < 0
    · go_enter Try.func33, Try.ntmps33
      go_wp2_with fail
      go_ret
      exact take_bad rfl HB.out hB hnc hn (.inr (.inl h0))
    · by_cases h1 : (n : Int) < k
      · go_enter Try.func33, Try.ntmps33
        go_wp2_with fail
        go_ret
        exact take_bad rfl HB.out hB hnc hn (.inr (.inr h1))
      · obtain ⟨j, rfl⟩ := Int.eq_ofNat_of_zero_le (Int.not_lt.1 h0)
        have hj : j ≤ n := by omega
        by_cases hcj : c = j
        · subst hcj
          obtain rfl : n = c := by omega
          go_enter Try.func33, Try.ntmps33
          go_wp2_with fail
          go_ret
          exact take_ok rfl HB.out hB hnc hn hj (if_pos rfl).symm rfl (by simp)
        · go_enter Try.func33, Try.ntmps33
          go_wp2_with fail
          go_ret
          exact take_ok rfl HB.out hB hnc hn hj (if_neg hcj).symm rfl rfl
theorem refByte_any (g : Nat) (s : RS) (w : World) (hR : RdT 47 w g s) :
    Calls Try.prog 25 #[.pointer (some ⟨g, 0, none⟩)] w (RetV 47 w g (.int .i64 (s.byte.1 : Int)) s.byte.2) := by
  have Ht := Lib.hid (refTake_any g s 1 w hR)
  have HL := Lib.hid (take1_len s)
  have HY : Hid (s.byte = (match (s.take 1).1 with | [] => 0 | u :: _ => u.toNat, (s.take 1).2)) := rfl
  generalize s.byte = r at *
  generalize s.take 1 = q at *
  obtain ⟨l, s1⟩ := q
  simp only at *
  match l, HL.out, HY, Ht with
  | [], _, HY, Ht =>
    go_enter Try.func25, Try.ntmps25
    go_wp2_with fail
    refine Ht.out.mono ?_
    rintro e w1 ⟨A1, n1, c1, rfl, hB1, hR1, hg1, _⟩
    obtain rfl : n1 = 0 := by have := hB1.len; simpa using this.symm
    go_wp2_with fail
    go_ret
    rw [HY.out]
    exact ⟨rfl, hR1, hg1⟩
  | [u], _, HY, Ht =>
    go_enter Try.func25, Try.ntmps25
    go_wp2_with fail
    refine Ht.out.mono ?_
    rintro e w1 ⟨A1, n1, c1, rfl, hB1, hR1, hg1, _⟩
    obtain rfl : n1 = 1 := by have := hB1.len; simpa using this.symm
    obtain ⟨u1, b, off, rfl, hu, hb, hc, h256⟩ := hB1.at (show 0 < 1 by omega)
    obtain rfl : u1 = u := by have := hu.out; simpa using this.symm
    rw [Nat.add_zero] at hc
    go_wp2_with fail
    go_ret
    rw [HY.out]
    exact ⟨rfl, hR1, hg1⟩
  | _ :: _ :: _, h2, _, _ => simp at h2

theorem refLeft_any (g : Nat) (s : RS) (w : World) (hR : RdT 47 w g s) :
    Calls Try.prog 28 #[.pointer (some ⟨g, 0, none⟩)] w fun e w' => e = .returned (.int .i64 (s.left : Int)) ∧ w = w' := by
  obtain ⟨A, n, c, hblk, hB, hnc, hn⟩ := hR
  have c0 : w.cell? ⟨g, 0, none⟩ = some (.slice A n c) := hblk.cell 0
  have c1 : w.cell? ⟨g, 1, none⟩ = some (.bool s.bad) := hblk.cell 1
  have HB := Lib.hid hblk
  clear hblk
  obtain ⟨sl, sb⟩ := s
  have HL : Hid (RS.left ⟨sl, sb⟩ = if sb = true then 0 else n) := by rw [← hB.len]; exact Lib.hid rfl
  generalize RS.left ⟨sl, sb⟩ = r at *
  simp only at *
  cases sb
  all_goals
    go_enter Try.func28, Try.ntmps28
    go_wp2_with fail
    go_ret
    exact ⟨by rw [HL.out]; rfl, rfl⟩

theorem bad_self (s : RS) (h : s.bad = true) : s = ⟨s.l, true⟩ := by cases s; simp only at h; rw [h]

set_option maxHeartbeats 400000 in
theorem refNum_any (g : Nat) (s : RS) (w : World) (hR : RdT 47 w g s) :
    Calls Try.prog 22 #[.pointer (some ⟨g, 0, none⟩)] w (RetV 47 w g (.int .i64 s.num.1) s.num.2) := by
  obtain ⟨A, n, c, hblk, hB, hnc, hn⟩ := hR
  have c0 : w.cell? ⟨g, 0, none⟩ = some (.slice A n c) := hblk.cell 0
  have c1 : w.cell? ⟨g, 1, none⟩ = some (.bool s.bad) := hblk.cell 1
  have f0 := hblk.frozen 0
  have f1 := hblk.frozen 1
  have HB := Lib.hid hblk
  clear hblk
  obtain ⟨sl, sb⟩ := s
  simp only at *
  have Hg := Lib.hid (refGet_any A n c sl w hB)
  have HP := Lib.hid (fun m k (h : getL sl = some (m, k)) => (put_get h).2.2.1)
  have hbad : w.grownBy (w.setCell ⟨g, 1, none⟩ (.bool true)) (some g) := only_setCell (World.grownBy.refl w _) (.inl rfl) _
  have HQ := Lib.hid hbad
  clear hbad
  cases hgl : getL sl with
  | none =>
    have HN : Hid (RS.num ⟨sl, sb⟩ = (0, ⟨sl, true⟩)) := by
      cases sb
      · exact num_none hgl
      · exact num_bad rfl
    generalize RS.num ⟨sl, sb⟩ = r at *
    rw [hgl] at Hg
    clear hgl
    cases sb
    all_goals
      go_enter Try.func22, Try.ntmps22
      go_wp2_with fail
      refine Hg.out.mono ?_
      rintro e w' ⟨rfl, rfl⟩
      simp only [gotR]
      go_wp2_with fail
      go_ret
      rw [HN.out]
      exact ⟨rfl, ⟨A, n, c, HB.out.set_ 1 _, hB.only HQ.out (Rd.apart HB.out hB), hnc, hn⟩, HQ.out⟩
  | some q =>
    obtain ⟨m, k⟩ := q
    have hk : k ≤ n := by rw [← hB.len]; exact HP.out m k hgl
    cases sb with
    | true =>
      rw [num_bad rfl]
      rw [hgl] at Hg
      clear hgl
      go_enter Try.func22, Try.ntmps22
      go_wp2_with fail
      refine Hg.out.mono ?_
      rintro e w' ⟨rfl, rfl⟩
      simp only [gotR]
      go_wp2_with fail
      go_ret
      exact ⟨rfl, ⟨A, n, c, HB.out.set_ 1 _, hB.only HQ.out (Rd.apart HB.out hB), hnc, hn⟩, HQ.out⟩
    | false =>
      have HN := Lib.hid (show RS.num ⟨sl, false⟩ = (m, ⟨sl.drop k, false⟩) by
        unfold RS.num
        rw [if_neg (by simp)]
        simp only [hgl])
      generalize RS.num ⟨sl, false⟩ = r at *
      rw [hgl] at Hg
      clear hgl
      have hcut := hB.cut hk hnc
      by_cases hck : c = k
      · rw [if_pos hck] at hcut
        subst hck
        obtain rfl : n = c := by omega
        rw [Nat.sub_self] at hcut
        have hg0 : w.grownBy (w.setCell ⟨g, 0, none⟩ (.slice A 0 0)) (some g) := only_setCell (World.grownBy.refl w _) (.inl rfl) _
        have HQ0 := Lib.hid hg0
        clear hg0
        go_enter Try.func22, Try.ntmps22
        go_wp2_with fail
        refine Hg.out.mono ?_
        rintro e w' ⟨rfl, rfl⟩
        simp only [gotR]
        go_wp2_with fail
        go_ret
        rw [HN.out]
        exact ⟨rfl, ⟨A, 0, 0, HB.out.set_ 0 _, hcut.only HQ0.out (Rd.apart HB.out hcut), by omega, by omega⟩, HQ0.out⟩
      · rw [if_neg hck] at hcut
        have hg0 : w.grownBy (w.setCell ⟨g, 0, none⟩ (.slice (A.map (·.add k)) (n - k) (c - k))) (some g) := only_setCell (World.grownBy.refl w _) (.inl rfl) _
        have HQ0 := Lib.hid hg0
        clear hg0
        go_enter Try.func22, Try.ntmps22
        go_wp2_with fail
        refine Hg.out.mono ?_
        rintro e w' ⟨rfl, rfl⟩
        simp only [gotR]
        go_wp2_with fail
        go_ret
        rw [HN.out]
        exact ⟨rfl, ⟨A.map (·.add k), n - k, c - k, HB.out.set_ 0 _, hcut.only HQ0.out (Rd.apart HB.out hcut), by omega, by omega⟩, HQ0.out⟩

theorem take_bad_eq (s : RS) (k : Int) (h : s.bad = true) : s.take k = ([], ⟨s.l, true⟩) := by unfold RS.take; rw [if_pos (.inl h)]
theorem take_neg_eq (s : RS) : s.take (-1) = ([], ⟨s.l, true⟩) := by unfold RS.take; rw [if_pos (.inr (.inl (by omega)))]

set_option maxHeartbeats 400000 in
theorem refText_any (g : Nat) (s : RS) (w : World) (hR : RdT 47 w g s) :
    Calls Try.prog 23 #[.pointer (some ⟨g, 0, none⟩)] w (RetV 47 w g (.string ⟨s.text.1.toArray⟩) s.text.2) := by
  have Hn := Lib.hid (refNum_any g s w hR)
  have HT : Hid (s.text = s.num.2.take (if 65536 < s.num.1 then -1 else s.num.1)) := rfl
  generalize s.text = r at *
  generalize s.num = q at *
  obtain ⟨m, s1⟩ := q
  simp only at *
  by_cases hm : 65536 < m
  · rw [if_pos hm, take_neg_eq] at HT
    go_enter Try.func23, Try.ntmps23
    go_wp2_with fail
    refine Hn.out.mono ?_
    rintro e w1 ⟨rfl, hR1, hg1⟩
    obtain ⟨A, n, c, hblk, hB, hnc, hn⟩ := hR1
    have c1 : w1.cell? ⟨g, 1, none⟩ = some (.bool s1.bad) := hblk.cell 1
    have f1 := hblk.frozen 1
    have hg2 : w1.grownBy (w1.setCell ⟨g, 1, none⟩ (.bool true)) (some g) := only_setCell (World.grownBy.refl w1 _) (.inl rfl) _
    have hR2 : RdT 47 (w1.setCell ⟨g, 1, none⟩ (.bool true)) g ⟨s1.l, true⟩ := ⟨A, n, c, hblk.set_ 1 _, hB.only hg2 (Rd.apart hblk hB), hnc, hn⟩
    have HB := Lib.hid hblk
    clear hblk
    go_wp2_with fail
    refine (refTake_any g ⟨s1.l, true⟩ m _ hR2).mono ?_
    rw [take_bad_eq _ m rfl]
    simp only
    rw [← HT.out]
    rintro e w2 ⟨A2, n2, c2, rfl, hB2, hR3, hg3, _⟩
    have ks := hB2.str (P := Try.prog) 22 9 5 c2 Try.underlying22 Try.underlying5 Try.underlying9
    go_wp2_with fail
    go_ret
    exact ⟨rfl, hR3, only_trans hg1 (only_trans hg2 hg3)⟩
  · rw [if_neg hm] at HT
    go_enter Try.func23, Try.ntmps23
    go_wp2_with fail
    refine Hn.out.mono ?_
    rintro e w1 ⟨rfl, hR1, hg1⟩
    go_wp2_with fail
    refine (refTake_any g s1 m w1 hR1).mono ?_
    rw [← HT.out]
    rintro e w2 ⟨A2, n2, c2, rfl, hB2, hR2, hg2, _⟩
    have ks := hB2.str (P := Try.prog) 22 9 5 c2 Try.underlying22 Try.underlying5 Try.underlying9
    go_wp2_with fail
    go_ret
    exact ⟨rfl, hR2, only_trans hg1 hg2⟩

set_option maxHeartbeats 400000 in
theorem refReadWord_any (g : Nat) (s : RS) (w : World) (hR : RdT 47 w g s) :
    Calls Try.prog 27 #[.pointer (some ⟨g, 0, none⟩)] w (RetV 47 w g (.int .u32 (s.word.1 : Int)) s.word.2) := by
  have Ht := Lib.hid (refTake_any g s 4 w hR)
  have HL : Hid ((s.take 4).1.length = 0 ∨ (s.take 4).1.length = 4) := by
    unfold RS.take
    split
    · exact .inl rfl
    · refine .inr ?_
      simp
      omega
  have HY : Hid (s.word = (leN (s.take 4).1, (s.take 4).2)) := rfl
  generalize s.word = r at *
  generalize s.take 4 = q at *
  obtain ⟨l, s1⟩ := q
  simp only at *
  match l, HL.out, HY, Ht with
  | [], _, HY, Ht =>
    go_enter Try.func27, Try.ntmps27
    go_wp2_with fail
    refine Ht.out.mono ?_
    rintro e w1 ⟨A1, n1, c1, rfl, hB1, hR1, hg1, _⟩
    obtain rfl : n1 = 0 := by have := hB1.len; simpa using this.symm
    go_wp2_with fail
    go_ret
    rw [HY.out]
    exact ⟨rfl, hR1, hg1⟩
  | [a, b, c, d], _, HY, Ht =>
    go_enter Try.func27, Try.ntmps27
    go_wp2_with fail
    refine Ht.out.mono ?_
    rintro e w1 ⟨A1, n1, c1, rfl, hB1, hR1, hg1, _⟩
    obtain rfl : n1 = 4 := by have := hB1.len; simpa using this.symm
    obtain ⟨u0, b0, off, rfl, hu0, hb0, hc0, h0⟩ := hB1.at (show 0 < 4 by omega)
    obtain ⟨u1, b1, o1, e1, hu1, _, hc1, h1⟩ := hB1.at (show 1 < 4 by omega)
    obtain ⟨u2, b2, o2, e2, hu2, _, hc2, h2⟩ := hB1.at (show 2 < 4 by omega)
    obtain ⟨u3, b3, o3, e3, hu3, _, hc3, h3⟩ := hB1.at (show 3 < 4 by omega)
    injection e1 with e1; injection e1 with e1 e1'; subst e1; subst e1'
    injection e2 with e2; injection e2 with e2 e2'; subst e2; subst e2'
    injection e3 with e3; injection e3 with e3 e3'; subst e3; subst e3'
    obtain rfl : u0 = a := by have := hu0.out; simpa using this.symm
    obtain rfl : u1 = b := by have := hu1.out; simpa using this.symm
    obtain rfl : u2 = c := by have := hu2.out; simpa using this.symm
    obtain rfl : u3 = d := by have := hu3.out; simpa using this.symm
    rw [Nat.add_zero] at hc0
    go_wp2_with fail
    go_quiet (fail)
    go_wp2_with fail
    go_ret
    rw [HY.out]
    refine ⟨?_, hR1, only_drewN hg1 nq⟩
    simp [leN]
    omega
  | [_], h2, _, _ => simp at h2
  | [_, _], h2, _, _ => simp at h2
  | [_, _, _], h2, _, _ => simp at h2
  | _ :: _ :: _ :: _ :: _ :: _, h2, _, _ => simp at h2
end Go.Proofs.Ytgklbejnbplbgaa
