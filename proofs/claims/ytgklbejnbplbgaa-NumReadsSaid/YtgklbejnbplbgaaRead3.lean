/-
  The reader's Bad, Num, Text, Byte, Left; a reader that is nil.
-/
import Derived.Test.YtgklbejnbplbgaaRead2
import Derived.Test.YtgklbejnbplbgaaNumG
namespace Go.Proofs.Ytgklbejnbplbgaa
open Go.RowKit Go.Nst
set_option maxRecDepth 100000
set_option linter.unusedVariables false

def RS.num (s : RS) : Int × RS := if s.bad = true then (0, s) else match getL s.l with
  | some (n, k) => (n, ⟨s.l.drop k, false⟩)
  | none => (0, ⟨s.l, true⟩)
def RS.text (s : RS) : List UInt8 × RS := s.num.2.take (if 65536 < s.num.1 then -1 else s.num.1)
def RS.byte (s : RS) : Nat × RS := (match (s.take 1).1 with | [] => 0 | u :: _ => u.toNat, (s.take 1).2)
def RS.left (s : RS) : Nat := if s.bad = true then 0 else s.l.length
/-- a value, and what is left -/
def RetV (T : TypeId) (w : World) (g : Nat) (v : Value) (s : RS) (e : Ending) (w' : World) : Prop := e = .returned v ∧ RdT T w' g s ∧ w.grownBy w' (some g)

theorem bad_any (g : Nat) (s : RS) (w : World) (hR : Rd w g s) :
    Calls Try.prog 20 #[.pointer (some ⟨g, 0, none⟩)] w fun e w' => e = .returned (.bool s.bad) ∧ w = w' := by
  obtain ⟨A, n, c, hblk, hB, hnc, hn⟩ := hR
  have c1 : w.cell? ⟨g, 1, none⟩ = some (.bool s.bad) := hblk.cell 1
  have HB := Lib.hid hblk
  clear hblk
  obtain ⟨sl, sb⟩ := s
  simp only at *
  cases sb
  all_goals
    go_enter Try.func20, Try.ntmps20
    go_wp2_with fail
    go_ret
    exact ⟨rfl, rfl⟩
theorem bad_nil (w : World) :
    Calls Try.prog 20 #[.pointer none] w fun e w' => e = .returned (.bool true) ∧ w = w' := by
  go_enter Try.func20, Try.ntmps20
  go_wp2_with fail
  go_ret
  exact ⟨rfl, rfl⟩
theorem left_any (g : Nat) (s : RS) (w : World) (hR : Rd w g s) :
    Calls Try.prog 19 #[.pointer (some ⟨g, 0, none⟩)] w fun e w' => e = .returned (.int .i64 (s.left : Int)) ∧ w = w' := by
  have Hb := Lib.hid (bad_any g s w hR)
  obtain ⟨A, n, c, hblk, hB, hnc, hn⟩ := hR
  have c0 : w.cell? ⟨g, 0, none⟩ = some (.slice A n c) := hblk.cell 0
  have HB := Lib.hid hblk
  clear hblk
  obtain ⟨sl, sb⟩ := s
  have HL : Hid (RS.left ⟨sl, sb⟩ = if sb = true then 0 else n) := by rw [← hB.len]; exact Lib.hid rfl
  generalize RS.left ⟨sl, sb⟩ = r at *
  cases sb
  all_goals
    go_enter Try.func19, Try.ntmps19
    go_wp2_with fail
    refine Hb.out.mono ?_
    rintro e w' ⟨rfl, rfl⟩
    go_wp2_with fail
    go_ret
    exact ⟨by rw [HL.out]; rfl, rfl⟩
theorem left_nil (w : World) : Calls Try.prog 19 #[.pointer none] w fun e w' => e = .returned (.int .i64 0) ∧ w = w' := by
  go_enter Try.func19, Try.ntmps19
  go_wp2_with fail
  refine (bad_nil w).mono ?_
  rintro e w' ⟨rfl, rfl⟩
  go_wp2_with fail
  go_ret
  exact ⟨rfl, rfl⟩
theorem take_nil (k : Int) (w : World) : Calls Try.prog 32 #[.pointer none, .int .i64 k] w fun e w' => e = .returned (.slice none 0 0) ∧ w = w' := by
  go_enter Try.func32, Try.ntmps32
  go_wp2_with fail
  go_ret
  exact ⟨rfl, rfl⟩

theorem num_bad {s : RS} (h : s.bad = true) : s.num = (0, s) := by unfold RS.num; rw [if_pos h]
theorem num_some {l : List UInt8} {n : Int} {k : Nat} (h : getL l = some (n, k)) : RS.num ⟨l, false⟩ = (n, (RS.take ⟨l, false⟩ k).2) := by
  unfold RS.num
  rw [if_neg (by simp)]
  simp only [h]
  have hk := (put_get h).2.2.1
  unfold RS.take
  rw [if_neg (by simp; omega)]
  simp
theorem num_none {l : List UInt8} (h : getL l = none) : RS.num ⟨l, false⟩ = (0, ⟨l, true⟩) := by
  unfold RS.num
  rw [if_neg (by simp)]
  simp only [h]

set_option maxHeartbeats 400000 in
theorem readNum_any (g : Nat) (s : RS) (w : World) (hR : Rd w g s) :
    Calls Try.prog 21 #[.pointer (some ⟨g, 0, none⟩)] w (RetV 55 w g (.int .i64 s.num.1) s.num.2) := by
  have Hb := Lib.hid (bad_any g s w hR)
  have HR := Lib.hid hR
  obtain ⟨A, n, c, hblk, hB, hnc, hn⟩ := hR
  have c0 : w.cell? ⟨g, 0, none⟩ = some (.slice A n c) := hblk.cell 0
  have c1 : w.cell? ⟨g, 1, none⟩ = some (.bool s.bad) := hblk.cell 1
  have f1 := hblk.frozen 1
  have HB := Lib.hid hblk
  clear hblk
  obtain ⟨sl, sb⟩ := s
  simp only at *
  cases sb with
  | true =>
    rw [num_bad rfl]
    go_enter Try.func21, Try.ntmps21
    go_wp2_with fail
    refine Hb.out.mono ?_
    rintro e w' ⟨rfl, rfl⟩
    go_wp2_with fail
    go_ret
    exact ⟨rfl, HR.out, World.grownBy.refl w _⟩
  | false =>
    have Hg := Lib.hid (get_any A n c sl w (by omega) hnc hB)
    cases hgl : getL sl with
    | none =>
      rw [num_none hgl]
      rw [hgl] at Hg
      clear hgl
      go_enter Try.func21, Try.ntmps21
      go_wp2_with fail
      refine Hb.out.mono ?_
      rintro e w' ⟨rfl, rfl⟩
      go_wp2_with fail
      refine Hg.out.mono ?_
      rintro e w' ⟨rfl, rfl⟩
      simp only [gotV]
      go_wp2_with fail
      go_ret
      have hg : w.grownBy (w.setCell ⟨g, 1, none⟩ (.bool true)) (some g) := only_setCell (World.grownBy.refl w _) (.inl rfl) _
      exact ⟨rfl, ⟨A, n, c, HB.out.set_ 1 _, hB.only hg (Rd.apart HB.out hB), hnc, hn⟩, hg⟩
    | some r =>
      obtain ⟨m, k⟩ := r
      rw [num_some hgl]
      rw [hgl] at Hg
      clear hgl
      have Ht := Lib.hid (take_any g ⟨sl, false⟩ (k : Int) w HR.out)
      go_enter Try.func21, Try.ntmps21
      go_wp2_with fail
      refine Hb.out.mono ?_
      rintro e w' ⟨rfl, rfl⟩
      go_wp2_with fail
      refine Hg.out.mono ?_
      rintro e w' ⟨rfl, rfl⟩
      simp only [gotV]
      go_wp2_with fail
      refine Ht.out.mono ?_
      rintro e w1 ⟨A1, n1, cc1, rfl, hB1, hR1, hg1, _⟩
      go_wp2_with fail
      go_ret
      exact ⟨rfl, hR1, hg1⟩
theorem readNum_nil (w : World) : Calls Try.prog 21 #[.pointer none] w fun e w' => e = .returned (.int .i64 0) ∧ w = w' := by
  go_enter Try.func21, Try.ntmps21
  go_wp2_with fail
  refine (bad_nil w).mono ?_
  rintro e w' ⟨rfl, rfl⟩
  go_wp2_with fail
  go_ret
  exact ⟨rfl, rfl⟩

theorem readText_any (g : Nat) (s : RS) (w : World) (hR : Rd w g s) :
    Calls Try.prog 18 #[.pointer (some ⟨g, 0, none⟩)] w (RetV 55 w g (.string ⟨s.text.1.toArray⟩) s.text.2) := by
  have Hn := Lib.hid (readNum_any g s w hR)
  have HT : Hid (s.text = s.num.2.take (if 65536 < s.num.1 then -1 else s.num.1)) := rfl
  generalize s.text = r at *
  generalize s.num = q at *
  obtain ⟨m, s1⟩ := q
  simp only at *
  by_cases hm : 65536 < m
  · rw [if_pos hm] at HT
    go_enter Try.func18, Try.ntmps18
    go_wp2_with fail
    refine Hn.out.mono ?_
    rintro e w1 ⟨rfl, hR1, hg1⟩
    go_wp2_with fail
    refine (take_any g s1 (-1) w1 hR1).mono ?_
    rw [← HT.out]
    rintro e w2 ⟨A2, n2, c2, rfl, hB2, hR2, hg2, _⟩
    have ks := hB2.str (P := Try.prog) 22 9 5 c2 Try.underlying22 Try.underlying5 Try.underlying9
    go_wp2_with fail
    go_ret
    exact ⟨rfl, hR2, only_trans hg1 hg2⟩
  · rw [if_neg hm] at HT
    go_enter Try.func18, Try.ntmps18
    go_wp2_with fail
    refine Hn.out.mono ?_
    rintro e w1 ⟨rfl, hR1, hg1⟩
    go_wp2_with fail
    refine (take_any g s1 m w1 hR1).mono ?_
    rw [← HT.out]
    rintro e w2 ⟨A2, n2, c2, rfl, hB2, hR2, hg2, _⟩
    have ks := hB2.str (P := Try.prog) 22 9 5 c2 Try.underlying22 Try.underlying5 Try.underlying9
    go_wp2_with fail
    go_ret
    exact ⟨rfl, hR2, only_trans hg1 hg2⟩
theorem readText_nil (w : World) : Calls Try.prog 18 #[.pointer none] w fun e w' => e = .returned (.string ⟨#[]⟩) ∧ w = w' := by
  have ks := fun W => (Bs.nil (w := W) (A := none)).str (P := Try.prog) 22 9 5 0 Try.underlying22 Try.underlying5 Try.underlying9
  go_enter Try.func18, Try.ntmps18
  go_wp2_with fail
  refine (readNum_nil w).mono ?_
  rintro e w' ⟨rfl, rfl⟩
  go_wp2_with fail
  refine (take_nil 0 w).mono ?_
  rintro e w' ⟨rfl, rfl⟩
  go_wp2_with fail
  go_ret
  exact ⟨rfl, rfl⟩

theorem take1_len (s : RS) : (s.take 1).1.length ≤ 1 := by
  unfold RS.take
  split
  · simp
  · simp; omega
theorem readByte_any (g : Nat) (s : RS) (w : World) (hR : Rd w g s) :
    Calls Try.prog 24 #[.pointer (some ⟨g, 0, none⟩)] w (RetV 55 w g (.int .i64 (s.byte.1 : Int)) s.byte.2) := by
  have Ht := Lib.hid (take_any g s 1 w hR)
  have HL := Lib.hid (take1_len s)
  have HY : Hid (s.byte = (match (s.take 1).1 with | [] => 0 | u :: _ => u.toNat, (s.take 1).2)) := rfl
  generalize s.byte = r at *
  generalize s.take 1 = q at *
  obtain ⟨l, s1⟩ := q
  simp only at *
  match l, HL.out, HY, Ht with
  | [], _, HY, Ht =>
    go_enter Try.func24, Try.ntmps24
    go_wp2_with fail
    refine Ht.out.mono ?_
    rintro e w1 ⟨A1, n1, c1, rfl, hB1, hR1, hg1, _⟩
    obtain rfl : n1 = 0 := by have := hB1.len; simpa using this.symm
    go_wp2_with fail
    go_ret
    rw [HY.out]
    exact ⟨rfl, hR1, hg1⟩
  | [u], _, HY, Ht =>
    go_enter Try.func24, Try.ntmps24
    go_wp2_with fail
    refine Ht.out.mono ?_
    rintro e w1 ⟨A1, n1, c1, rfl, hB1, hR1, hg1, _⟩
    obtain rfl : n1 = 1 := by have := hB1.len; simpa using this.symm
    obtain ⟨u1, b, off, rfl, hu, hb, hc, h256⟩ := hB1.at (show 0 < 1 by omega)
    obtain rfl : u1 = u := by have := hu.out; simpa using this.symm
    rw [Nat.add_zero] at hc
    go_wp2_with fail
    go_ret
    rw [HY.out]
    exact ⟨rfl, hR1, hg1⟩
  | _ :: _ :: _, h2, _, _ => simp at h2
theorem readByte_nil (w : World) : Calls Try.prog 24 #[.pointer none] w fun e w' => e = .returned (.int .i64 0) ∧ w = w' := by
  go_enter Try.func24, Try.ntmps24
  go_wp2_with fail
  refine (take_nil 1 w).mono ?_
  rintro e w' ⟨rfl, rfl⟩
  go_wp2_with fail
  go_ret
  exact ⟨rfl, rfl⟩
theorem readWord_nil (w : World) : Calls Try.prog 26 #[.pointer none] w fun e w' => e = .returned (.int .u32 0) ∧ w = w' := by
  go_enter Try.func26, Try.ntmps26
  go_wp2_with fail
  refine (take_nil 4 w).mono ?_
  rintro e w' ⟨rfl, rfl⟩
  go_wp2_with fail
  refine wp_loop_rounds 1 ?_
  rw [rounds_succ]
  go_wp2_with fail
  go_ret
  exact ⟨rfl, rfl⟩
end Go.Proofs.Ytgklbejnbplbgaa
