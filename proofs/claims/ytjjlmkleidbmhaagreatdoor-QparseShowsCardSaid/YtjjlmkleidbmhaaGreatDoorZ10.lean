/-
  Queries' texts and what they lean on, part 10: only what the claims need.
-/
import Derived.Test.YtjjlmkleidbmhaaGreatDoorZ09
import Derived.Test.YtjjlmkleidbmhaaGreatDoorZ00
section
namespace Go.Proofs.YtjjlmkleidbmhaaGreatDoor
open Go.RowKit Go.Nst
set_option maxRecDepth 100000
set_option linter.unusedVariables false
set_option linter.unusedSimpArgs false

set_option maxHeartbeats 2000000 in
theorem plain25_12 (n : Int) (s : List UInt8) (A : Option Addr) (k c : Nat) (w : World) (hs : s.length ≤ 20000) : Calls Tryz.prog 44 #[.agg (qV 12 n s A k c)] w fun e w' => e = .returned (.bool (oneQ 12 n s k)) ∧ Below w.heap.size w w' := by
  have B0 := bel_alloc (Below.refl w.heap.size w) (.cells (qV 12 n s A k c) 25)
  unfold qV at *
  have HC := Lib.hid (fun W => word25_any s W hs)
  by_cases hn : n = 0
  · subst hn
    have hq : oneQ 12 0 s k = (wordB s && decide (k = 0)) := by simp [oneQ, numQ, txtQ, kidQ]
    have HQ := Lib.hid hq
    clear hq
    generalize wordB s = tb at *
    cases tb with
    | false =>
      go_enter Tryz.func44, Tryz.ntmps44
      go_wp2_with fail
      (with_reducible refine (HC.out _).mono ?_)
      rintro e w1 ⟨rfl, hb1⟩
      go_wp2_with fail
      go_ret
      exact ⟨by rw [HQ.out]; rfl, bel_step (bel_alloc (Below.refl _ _) _) hb1⟩
    | true =>
      have HX := Lib.hid (Blk.new w 25 (qV 12 0 s A k c))
      simp only [qV] at HX
      go_enter Tryz.func44, Tryz.ntmps44
      go_wp2_with fail
      (with_reducible refine (HC.out _).mono ?_)
      rintro e w1 ⟨rfl, hb1⟩
      obtain ⟨-, -, x2, x3⟩ := box_facts (HX.out.below hb1 HX.out.lt)
      go_wp2_with fail
      go_ret
      exact ⟨retb (by rw [HQ.out, Bool.eq_iff_iff]; simp; try omega), bel_step (bel_alloc (Below.refl _ _) _) hb1⟩
  · have hn2 : (n == 0) = false := by simpa using hn
    have hq : oneQ 12 n s k = false := by simp [oneQ, numQ, hn]
    have HQ := Lib.hid hq
    clear hq hn
    by_cases h0 : s = []
    · subst h0
      go_enter Tryz.func44, Tryz.ntmps44
      go_wp2_with fail
      all_goals
        go_ret
        exact ⟨by rw [HQ.out]; rfl, bel_alloc (Below.refl _ _) _⟩
    · have hs2 : s.isEmpty = false := by simpa using h0
      go_enter Tryz.func44, Tryz.ntmps44
      go_wp2_with fail
      all_goals
        go_ret
        exact ⟨by rw [HQ.out]; rfl, bel_alloc (Below.refl _ _) _⟩
set_option maxHeartbeats 2000000 in
theorem plain25_13 (n : Int) (s : List UInt8) (A : Option Addr) (k c : Nat) (w : World) (hs : s.length ≤ 20000) : Calls Tryz.prog 44 #[.agg (qV 13 n s A k c)] w fun e w' => e = .returned (.bool (oneQ 13 n s k)) ∧ Below w.heap.size w w' := by
  have B0 := bel_alloc (Below.refl w.heap.size w) (.cells (qV 13 n s A k c) 25)
  unfold qV at *
  have HC := Lib.hid (fun W => refMay4_any n W)
  have hq : oneQ 13 n s k = (mayM n && decide (s = []) && decide (k = 0)) := by simp [oneQ, numQ, txtQ, kidQ]
  have HQ := Lib.hid hq
  clear hq
  generalize mayM n = tb at *
  by_cases h0 : s = []
  · subst h0
    by_cases h1 : 1 ≤ n
    all_goals by_cases h2 : n ≤ 1048576
    all_goals try (exfalso; omega)
    all_goals
      cases tb
      all_goals
        have HX := Lib.hid (Blk.new w 25 #[.int .i64 13, .int .i64 n, .string ⟨#[]⟩, .slice A k c])
        go_enter Tryz.func44, Tryz.ntmps44
        go_wp2_with fail
        (with_reducible refine (HC.out _).mono ?_)
        rintro e w1 ⟨rfl, hb1⟩
        have x2 := (HX.out.below hb1 HX.out.lt).cell 2
        have x3 := (HX.out.below hb1 HX.out.lt).cell 3
        simp at x2 x3
        go_wp2_with fail
        go_ret
        exact ⟨retb (by rw [HQ.out, Bool.eq_iff_iff]; simp; try omega), bel_step (bel_alloc (Below.refl _ _) _) hb1⟩
  · have hs2 : s.isEmpty = false := by simpa using h0
    by_cases h1 : 1 ≤ n
    all_goals by_cases h2 : n ≤ 1048576
    all_goals try (exfalso; omega)
    all_goals
      cases tb
      all_goals
        have HX := Lib.hid (Blk.new w 25 (qV 13 n s A k c))
        simp only [qV] at HX
        go_enter Tryz.func44, Tryz.ntmps44
        go_wp2_with fail
        (with_reducible refine (HC.out _).mono ?_)
        rintro e w1 ⟨rfl, hb1⟩
        obtain ⟨-, -, x2, x3⟩ := box_facts (HX.out.below hb1 HX.out.lt)
        go_wp2_with fail
        go_ret
        exact ⟨retb (by rw [HQ.out, decide_eq_false h0]; rfl), bel_step (bel_alloc (Below.refl _ _) _) hb1⟩
set_option maxHeartbeats 2000000 in
theorem plain25_14 (n : Int) (s : List UInt8) (A : Option Addr) (k c : Nat) (w : World) (hs : s.length ≤ 20000) : Calls Tryz.prog 44 #[.agg (qV 14 n s A k c)] w fun e w' => e = .returned (.bool (oneQ 14 n s k)) ∧ Below w.heap.size w w' := by
  have B0 := bel_alloc (Below.refl w.heap.size w) (.cells (qV 14 n s A k c) 25)
  unfold qV at *
  have HC := Lib.hid (fun W => refMay4_any n W)
  have hq : oneQ 14 n s k = (mayM n && decide (s = []) && decide (k = 0)) := by simp [oneQ, numQ, txtQ, kidQ]
  have HQ := Lib.hid hq
  clear hq
  generalize mayM n = tb at *
  by_cases h0 : s = []
  · subst h0
    by_cases h1 : 1 ≤ n
    all_goals by_cases h2 : n ≤ 1048576
    all_goals try (exfalso; omega)
    all_goals
      cases tb
      all_goals
        have HX := Lib.hid (Blk.new w 25 #[.int .i64 14, .int .i64 n, .string ⟨#[]⟩, .slice A k c])
        go_enter Tryz.func44, Tryz.ntmps44
        go_wp2_with fail
        (with_reducible refine (HC.out _).mono ?_)
        rintro e w1 ⟨rfl, hb1⟩
        have x2 := (HX.out.below hb1 HX.out.lt).cell 2
        have x3 := (HX.out.below hb1 HX.out.lt).cell 3
        simp at x2 x3
        go_wp2_with fail
        go_ret
        exact ⟨retb (by rw [HQ.out, Bool.eq_iff_iff]; simp; try omega), bel_step (bel_alloc (Below.refl _ _) _) hb1⟩
  · have hs2 : s.isEmpty = false := by simpa using h0
    by_cases h1 : 1 ≤ n
    all_goals by_cases h2 : n ≤ 1048576
    all_goals try (exfalso; omega)
    all_goals
      cases tb
      all_goals
        have HX := Lib.hid (Blk.new w 25 (qV 14 n s A k c))
        simp only [qV] at HX
        go_enter Tryz.func44, Tryz.ntmps44
        go_wp2_with fail
        (with_reducible refine (HC.out _).mono ?_)
        rintro e w1 ⟨rfl, hb1⟩
        obtain ⟨-, -, x2, x3⟩ := box_facts (HX.out.below hb1 HX.out.lt)
        go_wp2_with fail
        go_ret
        exact ⟨retb (by rw [HQ.out, decide_eq_false h0]; rfl), bel_step (bel_alloc (Below.refl _ _) _) hb1⟩
set_option maxHeartbeats 2000000 in
theorem plain25_15 (n : Int) (s : List UInt8) (A : Option Addr) (k c : Nat) (w : World) (hs : s.length ≤ 20000) : Calls Tryz.prog 44 #[.agg (qV 15 n s A k c)] w fun e w' => e = .returned (.bool (oneQ 15 n s k)) ∧ Below w.heap.size w w' := by
  have B0 := bel_alloc (Below.refl w.heap.size w) (.cells (qV 15 n s A k c) 25)
  unfold qV at *
  by_cases h0 : s = []
  · subst h0
    go_enter Tryz.func44, Tryz.ntmps44
    go_wp2_with fail
    all_goals
      go_ret
      exact ⟨retb (by rw [Bool.eq_iff_iff]; simp [oneQ, numQ, txtQ, kidQ]; try omega), bel_alloc (Below.refl _ _) _⟩
  · have hs2 : s.isEmpty = false := by simpa using h0
    have hq : oneQ 15 n s k = false := by simp [oneQ, txtQ, h0]
    have HQ := Lib.hid hq
    clear hq
    go_enter Tryz.func44, Tryz.ntmps44
    go_wp2_with fail
    all_goals
      go_ret
      exact ⟨by rw [HQ.out]; rfl, bel_alloc (Below.refl _ _) _⟩
end Go.Proofs.YtjjlmkleidbmhaaGreatDoor
end
section
namespace Go.Proofs.YtjjlmkleidbmhaaGreatDoor
open Go.RowKit Go.Nst
set_option maxRecDepth 100000
set_option linter.unusedVariables false
set_option linter.unusedSimpArgs false

set_option maxHeartbeats 2000000 in
theorem plain25_no (o : Int) (n : Int) (s : List UInt8) (A : Option Addr) (k c : Nat) (w : World) (hs : s.length ≤ 20000) (h : ¬ (1 ≤ o ∧ o ≤ 15)) : Calls Tryz.prog 44 #[.agg (qV o n s A k c)] w fun e w' => e = .returned (.bool (oneQ o n s k)) ∧ Below w.heap.size w w' := by
  have B0 := bel_alloc (Below.refl w.heap.size w) (.cells (qV o n s A k c) 25)
  unfold qV at *
  have b1 : (o == 1) = false := by simp; omega
  have b2 : (o == 2) = false := by simp; omega
  have b3 : (o == 3) = false := by simp; omega
  have b4 : (o == 4) = false := by simp; omega
  have b5 : (o == 5) = false := by simp; omega
  have b6 : (o == 6) = false := by simp; omega
  have b7 : (o == 7) = false := by simp; omega
  have b8 : (o == 8) = false := by simp; omega
  have b9 : (o == 9) = false := by simp; omega
  have b10 : (o == 10) = false := by simp; omega
  have b11 : (o == 11) = false := by simp; omega
  have b12 : (o == 12) = false := by simp; omega
  have b13 : (o == 13) = false := by simp; omega
  have b14 : (o == 14) = false := by simp; omega
  have b15 : (o == 15) = false := by simp; omega
  have hq : oneQ o n s k = false := by simp only [oneQ, decide_eq_false h, Bool.false_and]
  have HQ := Lib.hid hq
  clear hq h
  by_cases h0 : s = []
  · subst h0
    by_cases h1 : 1 ≤ n
    all_goals by_cases h2 : n ≤ 1048576
    all_goals try (exfalso; omega)
    all_goals
      go_enter Tryz.func44, Tryz.ntmps44
      go_wp2_with fail
      go_ret
      exact ⟨by rw [HQ.out]; rfl, bel_alloc (Below.refl _ _) _⟩
  · have hs2 : s.isEmpty = false := by simpa using h0
    by_cases h1 : 1 ≤ n
    all_goals by_cases h2 : n ≤ 1048576
    all_goals try (exfalso; omega)
    all_goals
      go_enter Tryz.func44, Tryz.ntmps44
      go_wp2_with fail
      go_ret
      exact ⟨by rw [HQ.out]; rfl, bel_alloc (Below.refl _ _) _⟩
theorem refPlain25_any (o : Int) (n : Int) (s : List UInt8) (A : Option Addr) (k c : Nat) (w : World) (hs : s.length ≤ 20000) : Calls Tryz.prog 44 #[.agg (qV o n s A k c)] w fun e w' => e = .returned (.bool (oneQ o n s k)) ∧ Below w.heap.size w w' := by
  by_cases h : 1 ≤ o ∧ o ≤ 15
  · obtain ⟨h1, h2⟩ := h
    obtain rfl | rfl | rfl | rfl | rfl | rfl | rfl | rfl | rfl | rfl | rfl | rfl | rfl | rfl | rfl : o = 1 ∨ o = 2 ∨ o = 3 ∨ o = 4 ∨ o = 5 ∨ o = 6 ∨ o = 7 ∨ o = 8 ∨ o = 9 ∨ o = 10 ∨ o = 11 ∨ o = 12 ∨ o = 13 ∨ o = 14 ∨ o = 15 := by omega
    · exact plain25_1 n s A k c w hs
    · exact plain25_2 n s A k c w hs
    · exact plain25_3 n s A k c w hs
    · exact plain25_4 n s A k c w hs
    · exact plain25_5 n s A k c w hs
    · exact plain25_6 n s A k c w hs
    · exact plain25_7 n s A k c w hs
    · exact plain25_8 n s A k c w hs
    · exact plain25_9 n s A k c w hs
    · exact plain25_10 n s A k c w hs
    · exact plain25_11 n s A k c w hs
    · exact plain25_12 n s A k c w hs
    · exact plain25_13 n s A k c w hs
    · exact plain25_14 n s A k c w hs
    · exact plain25_15 n s A k c w hs
  · exact plain25_no o n s A k c w hs h
end Go.Proofs.YtjjlmkleidbmhaaGreatDoor
end
section
namespace Go.Proofs.YtjjlmkleidbmhaaGreatDoor
open Go.RowKit Go.Nst
set_option maxRecDepth 100000
set_option linter.unusedVariables false
set_option linter.unusedSimpArgs false

/-- an index, or below 0: as b says -/
def IdxR (w : World) (b : Bool) (e : Ending) (w' : World) : Prop := ∃ z : Int, e = .returned (.int .i64 z) ∧ decide (0 ≤ z) = b ∧ Below w.heap.size w w'

/-- slices.IndexFunc at newsstand/qtree.plain$1 -/
theorem index_plain (p : Qy → Bool) (I : World → Prop) (hI : ∀ W W' : World, I W → Below W.heap.size W W' → I W') (l : List Qy) (H : ∀ q ∈ l, ∀ (vs : Array Value) (W : World) (S : Nat → Prop), I W → QAt W S vs q → Calls Tryz.prog 55 #[.agg vs] W fun e w' => e = .returned (.bool (p q)) ∧ Below W.heap.size W w')
    (A : Option Addr) (n c : Nat) (w : World) (S : Nat → Prop) (hc : n ≤ c ∧ c ≤ 9223372036854775807) (hk : QsAt w S A n l) (hw : I w) : Calls Tryz.prog 72 #[.slice A n c, .func (.func 55) #[] #[]] w (IdxR w (l.any p)) := by
  have HI := Lib.hid hI
  have HH := Lib.hid H
  have hln := hk.1
  have HLN := Lib.hid hln
  have hc1 := hc.1
  have hc2 := hc.2
  clear hI H hc hln
  go_enter Tryz.func72, Tryz.ntmps72
  go_wp2_with fail
  go_loopw [8] (fun i wr => ∃ k : Nat, k ≤ n ∧ i = .int .i64 k ∧ Hid ((l.take k).any p = false) ∧ Hid (I wr) ∧ Below w.heap.size w wr) (fun i _ => n - (intOf i).toNat)
  case atStart => exact ⟨0, Nat.zero_le _, rfl, Lib.hid (by simp), Lib.hid hw, Below.refl _ _⟩
  case round =>
    obtain ⟨k, hkl, rfl, hsofar, hiw, hb⟩ := hrel
    by_cases hlt : k < n
    · have hlt' : decide (k < n) = true := by simpa using hlt
      obtain ⟨q, B, c', b, off, hg, rfl, -, hbs, hq', g1, g2, g3, g4, g5, f0, f1, f2, f3⟩ := (hk.bel hb).at hlt
      have HM := Lib.hid (List.mem_of_getElem? hg.out)
      have hsn : (l.take (k + 1)).any p = p q := by
        rw [List.take_add_one, hg.out, List.any_append, hsofar.out]
        simp
      have hany : p q = true → l.any p = true := fun hp => List.any_eq_true.2 ⟨q, HM.out, hp⟩
      have HS := Lib.hid hsn
      have HA := Lib.hid hany
      have HC := Lib.hid (HH.out q HM.out _ wr S hiw.out hq'.out)
      clear hsn hq' hany
      simp only [qV] at HC
      generalize p q = pq at *
      go_wp2_with fail
      (with_reducible refine (HC.out).mono ?_)
      rintro e w2 ⟨rfl, hb2⟩
      have B3 := bel_step hb hb2
      cases pq with
      | true =>
        go_wp2_with fail
        go_ret
        exact ⟨k, rfl, by rw [HA.out (by simp)]; simp, B3⟩
      | false =>
        go_wp2_with fail
        go_roundw
        case rel => exact ⟨k + 1, by omega, by go_num, HS, Lib.hid (HI.out _ _ hiw.out hb2), B3⟩
        case measure => simp [intOf]; omega
    · obtain rfl : k = n := by omega
      have hlt' : decide (k < k) = false := by simp
      have hfin : l.any p = false := by have := hsofar.out; rwa [List.take_of_length_le (by have := HLN.out; omega)] at this
      have HF := Lib.hid hfin
      clear hfin
      go_wp2_with fail
      go_ret
      exact ⟨-1, rfl, by rw [HF.out]; rfl, hb⟩
/-- slices.ContainsFunc at newsstand/qtree.plain$1 -/
theorem contains_plain (p : Qy → Bool) (I : World → Prop) (hI : ∀ W W' : World, I W → Below W.heap.size W W' → I W') (l : List Qy) (H : ∀ q ∈ l, ∀ (vs : Array Value) (W : World) (S : Nat → Prop), I W → QAt W S vs q → Calls Tryz.prog 55 #[.agg vs] W fun e w' => e = .returned (.bool (p q)) ∧ Below W.heap.size W w')
    (A : Option Addr) (n c : Nat) (w : World) (S : Nat → Prop) (hc : n ≤ c ∧ c ≤ 9223372036854775807) (hk : QsAt w S A n l) (hw : I w) : Calls Tryz.prog 54 #[.slice A n c, .func (.func 55) #[] #[]] w fun e w' => e = .returned (.bool (l.any p)) ∧ Below w.heap.size w w' := by
  have HC := Lib.hid (index_plain p I hI l H A n c w S hc hk hw)
  clear hI H hk
  generalize l.any p = b at *
  go_enter Tryz.func54, Tryz.ntmps54
  go_wp2_with fail
  (with_reducible refine (HC.out).mono ?_)
  rintro e w2 ⟨z, rfl, hz, hb2⟩
  go_wp2_with fail
  go_ret
  exact ⟨by rw [← hz]; simp, hb2⟩

mutual
def plaQ : Qy → Bool
  | ⟨o, n, s, ks⟩ => oneQ o n s ks.length && plaL ks
def plaL : List Qy → Bool
  | [] => true
  | k :: ks => plaQ k && plaL ks
end
theorem plaL_all : ∀ l : List Qy, plaL l = l.all plaQ
  | [] => rfl
  | x :: xs => by simp only [plaL, List.all_cons, plaL_all xs]
theorem plaL_any (l : List Qy) : plaL l = !l.any fun q => !plaQ q := by
  rw [plaL_all]
  simp [List.not_any_eq_all_not]
def plainP (f : FuncId) (q : Qy) : Prop := ∀ (vs : Array Value) (w : World) (S : Nat → Prop), Sml q → QAt w S vs q → Calls Tryz.prog f #[.agg vs] w fun e w' => e = .returned (.bool (plaQ q)) ∧ Below w.heap.size w w'
theorem plain1_any (q : Qy) (h : plainP 36 q) (vs : Array Value) (w : World) (S : Nat → Prop) (hs : Sml q) (hq : QAt w S vs q) : Calls Tryz.prog 55 #[.agg vs] w fun e w' => e = .returned (.bool (!plaQ q)) ∧ Below w.heap.size w w' := by
  have B0 := bel_alloc (Below.refl w.heap.size w) (.cells vs 25)
  have HC := Lib.hid (h vs _ S hs (hq.bel B0))
  obtain ⟨A, c, rfl, -, -, -, -, -, -⟩ := hq.open_
  simp only [qV] at *
  clear h hq
  generalize plaQ q = b at *
  go_enter Tryz.func55, Tryz.ntmps55
  go_wp2_with fail
  (with_reducible refine (HC.out).mono ?_)
  rintro e w2 ⟨rfl, hb2⟩
  go_wp2_with fail
  go_ret
  exact ⟨by simp, bel_step B0 hb2⟩
set_option maxHeartbeats 2000000 in
theorem plain25_any (q : Qy) : plainP 36 q := by
  refine Qy.ind (p := plainP 36) ?_ q
  intro o n s l ih vs w S hsm hq
  obtain ⟨A, c, rfl, ho, hn, hs, hc1, hc2, hk⟩ := hq.open_
  simp only [Qy.op, Qy.n, Qy.s, Qy.kids] at *
  have hs2 := hsm.s
  have hks : ∀ k ∈ l, Sml k := fun k hk => hsm.kid hk
  have B0 := bel_alloc (Below.refl w.heap.size w) (.cells (qV o n s A l.length c) 25)
  have HX := Lib.hid (Blk.new w 25 (qV o n s A l.length c))
  have HN := Lib.hid (fun W => number25_any o n s A l.length c W)
  have HT := Lib.hid (fun W => text25_any o n s A l.length c W (by simpa [Qy.s] using hs2))
  have HK := Lib.hid (fun W => kids25_any o n s A l.length c W)
  have HCF := Lib.hid (fun W hW => contains_plain (fun q => !plaQ q) (fun _ => True) (fun _ _ _ _ => trivial) l (fun q hm vs W S _ hqq => plain1_any q (ih q hm) vs W S (hks q hm) hqq) A l.length c W S ⟨hc1, hc2⟩ hW trivial)
  have hp : plaQ ⟨o, n, s, l⟩ = (decide (1 ≤ o ∧ o ≤ 15) && numQ o n && txtQ o s && kidQ o l.length && !l.any fun q => !plaQ q) := by
    simp only [plaQ, oneQ, plaL_any]
  have HP := Lib.hid hp
  have HKK := Lib.hid hk
  clear hp ih hks hsm hs2 hq hk
  simp only [qV] at *
  generalize (l.any fun q => !plaQ q) = any at *
  by_cases h1 : 1 ≤ o ∧ o ≤ 15
  case neg =>
    have hf : plaQ ⟨o, n, s, l⟩ = false := by rw [HP.out, decide_eq_false h1]; rfl
    have HF := Lib.hid hf
    clear hf
    by_cases h2 : o < 1
    · have d1 : decide (o < 1) = true := by simpa using h2
      go_enter Tryz.func36, Tryz.ntmps36
      go_wp2_with fail
      go_ret
      exact ⟨by rw [HF.out]; rfl, B0⟩
    · have d1 : decide (o < 1) = false := by simpa using h2
      have d2 : decide (15 < o) = true := by simp; omega
      go_enter Tryz.func36, Tryz.ntmps36
      go_wp2_with fail
      go_ret
      exact ⟨by rw [HF.out]; rfl, B0⟩
  have HP2 : Hid (plaQ ⟨o, n, s, l⟩ = (numQ o n && txtQ o s && kidQ o l.length && !any)) := Lib.hid (by rw [HP.out, decide_eq_true h1, Bool.true_and])
  have d1 : decide (o < 1) = false := by simp; omega
  have d2 : decide (15 < o) = false := by simp; omega
  clear HP h1
  generalize numQ o n = b1 at *
  generalize txtQ o s = b2 at *
  generalize kidQ o l.length = b3 at *
  go_enter Tryz.func36, Tryz.ntmps36
  go_wp2_with fail
  (with_reducible refine (HN.out _).mono ?_)
  rintro e w1 ⟨rfl, hb1⟩
  have B1 := bel_step B0 hb1
  have HX1 := Lib.hid (HX.out.below hb1 HX.out.lt)
  cases b1 with
  | false =>
    go_wp2_with fail
    go_ret
    exact ⟨by rw [HP2.out]; rfl, B1⟩
  | true =>
  obtain ⟨x0, x1, x2, x3⟩ := box_facts HX1.out
  go_wp2_with fail
  (with_reducible refine (HT.out _).mono ?_)
  rintro e w2 ⟨rfl, hb2⟩
  have B2 := bel_step B1 hb2
  have HX2 := Lib.hid (HX1.out.below hb2 HX1.out.lt)
  clear x0 x1 x2 x3
  cases b2 with
  | false =>
    go_wp2_with fail
    go_ret
    exact ⟨by rw [HP2.out]; rfl, B2⟩
  | true =>
  obtain ⟨x0, x1, x2, x3⟩ := box_facts HX2.out
  go_wp2_with fail
  (with_reducible refine (HK.out _).mono ?_)
  rintro e w3 ⟨rfl, hb3⟩
  have B3 := bel_step B2 hb3
  have HX3 := Lib.hid (HX2.out.below hb3 HX2.out.lt)
  clear x0 x1 x2 x3
  cases b3 with
  | false =>
    go_wp2_with fail
    go_ret
    exact ⟨by rw [HP2.out]; rfl, B3⟩
  | true =>
  obtain ⟨x0, x1, x2, x3⟩ := box_facts HX3.out
  have HK3 := Lib.hid (HKK.out.bel B3)
  go_wp2_with fail
  (with_reducible refine (HCF.out _ HK3.out).mono ?_)
  rintro e w4 ⟨rfl, hb4⟩
  have B4 := bel_step B3 hb4
  go_wp2_with fail
  go_ret
  exact ⟨by rw [HP2.out]; rfl, B4⟩
set_option maxHeartbeats 2000000 in
theorem refAll25_any (q : Qy) : plainP 28 q := by
  refine Qy.ind (p := plainP 28) ?_ q
  intro o n s l ih vs w S hsm hq
  obtain ⟨A, c, rfl, ho, hn, hs, hc1, hc2, hk⟩ := hq.open_
  simp only [Qy.op, Qy.n, Qy.s, Qy.kids] at *
  have hs2 := hsm.s
  have hks : ∀ k ∈ l, Sml k := fun k hk => hsm.kid hk
  have B0 := bel_alloc (Below.refl w.heap.size w) (.cells (qV o n s A l.length c) 25)
  have X0 := Blk.new w 25 (qV o n s A l.length c)
  have HR := Lib.hid (fun W => refPlain25_any o n s A l.length c W (by simpa [Qy.s] using hs2))
  have hp : plaQ ⟨o, n, s, l⟩ = (oneQ o n s l.length && plaL l) := by simp only [plaQ]
  have HP := Lib.hid hp
  have HI := Lib.hid ih
  have HKS := Lib.hid hks
  clear hp ih hks hsm hs2 hq
  simp only [qV] at *
  generalize oneQ o n s l.length = b1 at *
  go_enter Tryz.func28, Tryz.ntmps28
  go_wp2_with fail
  go_loopw [3] (fun i wr => ∃ k : Nat, k ≤ l.length ∧ i = .int .i64 k ∧ Hid (plaL (l.take k) = true) ∧ Blk wr w.heap.size 25 (qV o n s A l.length c) ∧ Below w.heap.size w wr) (fun i _ => l.length - (intOf i).toNat)
  case atStart => exact ⟨0, Nat.zero_le _, rfl, Lib.hid rfl, X0, B0⟩
  case round =>
    obtain ⟨k, hkl, rfl, hsofar, hx, hb⟩ := hrel
    obtain ⟨x0, x1, x2, x3⟩ := box_facts hx
    have HX := Lib.hid hx
    clear hx
    by_cases hlt : k < l.length
    · have hlt' : decide (k < l.length) = true := by simpa using hlt
      obtain ⟨q, B, c', b, off, hg, rfl, -, hbs, hq', g1, g2, g3, g4, g5, f0, f1, f2, f3⟩ := (hk.bel hb).at hlt
      have hmem : q ∈ l := List.mem_of_getElem? hg.out
      have hsn : plaL (l.take (k + 1)) = plaQ q := by
        rw [plaL_all, List.take_add_one, hg.out, List.all_append, ← plaL_all, hsofar.out]
        simp
      have hno : plaQ q = false → plaL l = false := fun h => by
        rw [plaL_all, List.all_eq_false]
        exact ⟨q, hmem, by simp [h]⟩
      have HC := Lib.hid (HI.out q hmem _ wr S (HKS.out q hmem) hq'.out)
      have HS := Lib.hid hsn
      have HNO := Lib.hid hno
      clear hsn hno hmem hq'
      simp only [qV] at HC
      generalize plaQ q = pq at *
      go_wp2_with fail
      (with_reducible refine (HC.out).mono ?_)
      rintro e w2 ⟨rfl, hb2⟩
      have B3 := bel_step hb hb2
      cases pq with
      | true =>
        go_wp2_with fail
        go_roundw
        case rel => exact ⟨k + 1, by omega, by go_num, HS, HX.out.below hb2 HX.out.lt, B3⟩
        case measure => simp [intOf]; omega
      | false =>
        go_wp2_with fail
        go_ret
        exact ⟨by rw [HP.out, HNO.out (by simp), Bool.and_false]; rfl, B3⟩
    · obtain rfl : k = l.length := by omega
      have hlt' : decide (l.length < l.length) = false := by simp
      have hfin : plaL l = true := by have := hsofar.out; rwa [List.take_length] at this
      have HF := Lib.hid hfin
      clear hfin
      go_wp2_with fail
      (with_reducible refine (HR.out _).mono ?_)
      rintro e w2 ⟨rfl, hb2⟩
      go_wp2_with fail
      go_ret
      exact ⟨by rw [HP.out, HF.out, Bool.and_true]; rfl, bel_step hb hb2⟩
def okQ (q : Qy) : Bool := decide (depQ q 1 ≤ 12) && decide (nodQ q ≤ 64) && plaQ q
def errV (b : Bool) : Value := .int .i64 (if b then 0 else 250)
/-- what the checks ask: where a query is not too deep, its nodes can be counted, its texts are short -/
def Ask (q : Qy) : Prop := depQ q 1 ≤ 12 → nodQ q ≤ 1000000 ∧ Sml q

set_option maxHeartbeats 2000000 in
theorem Check25_any (q : Qy) (ha : Ask q) (vs : Array Value) (w : World) (S : Nat → Prop) (hq : QAt w S vs q) : Calls Tryz.prog 19 #[.agg vs] w fun e w' => e = .returned (errV (okQ q)) ∧ Below w.heap.size w w' := by
  have B0 := bel_alloc (Below.refl w.heap.size w) (.cells vs 25)
  have HX := Lib.hid (Blk.new w 25 vs)
  have HQ := Lib.hid hq
  have HD := Lib.hid (fun W hW => Depth25_any q vs W S trivial hW)
  have HND := Lib.hid (fun (h : nodK q) W hW => nodes25_any q vs W S h hW)
  have HPL := Lib.hid (fun (h : Sml q) W hW => plain25_any q vs W S h hW)
  have hp : okQ q = (decide (depQ q 1 ≤ 12) && decide (nodQ q ≤ 64) && plaQ q) := rfl
  have HP := Lib.hid hp
  have HA := Lib.hid (show depQ q 1 ≤ 12 → nodQ q ≤ 1000000 ∧ Sml q from ha)
  obtain ⟨A, c, rfl, ho, hn, hs, hc1, hc2, hk⟩ := hq.open_
  simp only [qV] at *
  clear hp ha hq hk
  have H1 := Lib.hid (HD.out _ (HQ.out.bel B0))
  generalize depQ q 1 = d at *
  by_cases h12 : d ≤ 12
  case neg =>
    have d1 : decide (12 < (d : Int)) = true := by simp; omega
    have d2 : decide ((d : Int) ≤ 12) = false := by simp; omega
    have hf : okQ q = false := by rw [HP.out, decide_eq_false h12]; rfl
    have HF := Lib.hid hf
    clear hf
    go_enter Tryz.func19, Tryz.ntmps19
    go_wp2_with fail
    (with_reducible refine (H1.out).mono ?_)
    rintro e w1 ⟨rfl, hb1⟩
    go_wp2_with fail
    go_ret
    exact ⟨by rw [HF.out]; rfl, bel_step B0 hb1⟩
  have d1 : decide (12 < (d : Int)) = false := by simp; omega
  have d2 : decide ((d : Int) ≤ 12) = true := by simp; omega
  obtain ⟨hn6, hsm⟩ := HA.out h12
  have HSM := Lib.hid hsm
  have HNK := Lib.hid (show nodK q by unfold nodK; omega)
  have HP2 : Hid (okQ q = (decide (nodQ q ≤ 64) && plaQ q)) := Lib.hid (by rw [HP.out, decide_eq_true h12, Bool.true_and])
  have H2 := Lib.hid (fun W hW => HND.out HNK.out W hW)
  clear HP HA HD HND hsm
  generalize nodQ q = m at *
  by_cases h64 : m ≤ 64
  case neg =>
    have e1 : decide (64 < (m : Int)) = true := by simp; omega
    have e2 : decide ((m : Int) ≤ 64) = false := by simp; omega
    have hf : okQ q = false := by rw [HP2.out, decide_eq_false h64]; rfl
    have HF := Lib.hid hf
    clear hf
    go_enter Tryz.func19, Tryz.ntmps19
    go_wp2_with fail
    (with_reducible refine (H1.out).mono ?_)
    rintro e w1 ⟨rfl, hb1⟩
    have B1 := bel_step B0 hb1
    obtain ⟨x0, x1, x2, x3⟩ := box_facts (HX.out.below hb1 HX.out.lt)
    have HQ1 := Lib.hid (HQ.out.bel B1)
    go_wp2_with fail
    (with_reducible refine (H2.out _ HQ1.out).mono ?_)
    rintro e w2 ⟨rfl, hb2⟩
    go_wp2_with fail
    go_ret
    exact ⟨by rw [HF.out]; rfl, bel_step B1 hb2⟩
  have e1 : decide (64 < (m : Int)) = false := by simp; omega
  have e2 : decide ((m : Int) ≤ 64) = true := by simp; omega
  have HP3 : Hid (okQ q = plaQ q) := Lib.hid (by rw [HP2.out, decide_eq_true h64, Bool.true_and])
  have H3 := Lib.hid (fun W hW => HPL.out HSM.out W hW)
  clear HP2 HPL
  generalize plaQ q = b at *
  go_enter Tryz.func19, Tryz.ntmps19
  go_wp2_with fail
  (with_reducible refine (H1.out).mono ?_)
  rintro e w1 ⟨rfl, hb1⟩
  have B1 := bel_step B0 hb1
  have HX1 := Lib.hid (HX.out.below hb1 HX.out.lt)
  obtain ⟨x0, x1, x2, x3⟩ := box_facts HX1.out
  have HQ1 := Lib.hid (HQ.out.bel B1)
  go_wp2_with fail
  (with_reducible refine (H2.out _ HQ1.out).mono ?_)
  rintro e w2 ⟨rfl, hb2⟩
  have B2 := bel_step B1 hb2
  clear x0 x1 x2 x3
  obtain ⟨x0, x1, x2, x3⟩ := box_facts (HX1.out.below hb2 HX1.out.lt)
  have HQ2 := Lib.hid (HQ.out.bel B2)
  go_wp2_with fail
  (with_reducible refine (H3.out _ HQ2.out).mono ?_)
  rintro e w3 ⟨rfl, hb3⟩
  have B3 := bel_step B2 hb3
  cases b with
  | true =>
    go_wp2_with fail
    go_ret
    exact ⟨by rw [HP3.out]; rfl, B3⟩
  | false =>
    go_wp2_with fail
    go_ret
    exact ⟨by rw [HP3.out]; rfl, B3⟩

set_option maxHeartbeats 2000000 in
theorem refCheck25_any (q : Qy) (ha : Ask q) (vs : Array Value) (w : World) (S : Nat → Prop) (hq : QAt w S vs q) : Calls Tryz.prog 14 #[.agg vs] w fun e w' => e = .returned (.bool (okQ q)) ∧ Below w.heap.size w w' := by
  have B0 := bel_alloc (Below.refl w.heap.size w) (.cells vs 25)
  have HX := Lib.hid (Blk.new w 25 vs)
  have HQ := Lib.hid hq
  have HD := Lib.hid (fun W hW => refDepth_any25 q vs W S trivial hW)
  have HND := Lib.hid (fun (h : nodK q) W hW => refNodes25_any q vs W S h hW)
  have HPL := Lib.hid (fun (h : Sml q) W hW => refAll25_any q vs W S h hW)
  have hp : okQ q = (decide (depQ q 1 ≤ 12) && decide (nodQ q ≤ 64) && plaQ q) := rfl
  have HP := Lib.hid hp
  have HA := Lib.hid (show depQ q 1 ≤ 12 → nodQ q ≤ 1000000 ∧ Sml q from ha)
  obtain ⟨A, c, rfl, ho, hn, hs, hc1, hc2, hk⟩ := hq.open_
  simp only [qV] at *
  clear hp ha hq hk
  have H1 := Lib.hid (HD.out _ (HQ.out.bel B0))
  generalize depQ q 1 = d at *
  by_cases h12 : d ≤ 12
  case neg =>
    have d1 : decide (12 < (d : Int)) = true := by simp; omega
    have d2 : decide ((d : Int) ≤ 12) = false := by simp; omega
    have hf : okQ q = false := by rw [HP.out, decide_eq_false h12]; rfl
    have HF := Lib.hid hf
    clear hf
    go_enter Tryz.func14, Tryz.ntmps14
    go_wp2_with fail
    (with_reducible refine (H1.out).mono ?_)
    rintro e w1 ⟨rfl, hb1⟩
    go_wp2_with fail
    go_ret
    exact ⟨by rw [HF.out]; rfl, bel_step B0 hb1⟩
  have d1 : decide (12 < (d : Int)) = false := by simp; omega
  have d2 : decide ((d : Int) ≤ 12) = true := by simp; omega
  obtain ⟨hn6, hsm⟩ := HA.out h12
  have HSM := Lib.hid hsm
  have HNK := Lib.hid (show nodK q by unfold nodK; omega)
  have HP2 : Hid (okQ q = (decide (nodQ q ≤ 64) && plaQ q)) := Lib.hid (by rw [HP.out, decide_eq_true h12, Bool.true_and])
  have H2 := Lib.hid (fun W hW => HND.out HNK.out W hW)
  clear HP HA HD HND hsm
  generalize nodQ q = m at *
  by_cases h64 : m ≤ 64
  case neg =>
    have e1 : decide (64 < (m : Int)) = true := by simp; omega
    have e2 : decide ((m : Int) ≤ 64) = false := by simp; omega
    have hf : okQ q = false := by rw [HP2.out, decide_eq_false h64]; rfl
    have HF := Lib.hid hf
    clear hf
    go_enter Tryz.func14, Tryz.ntmps14
    go_wp2_with fail
    (with_reducible refine (H1.out).mono ?_)
    rintro e w1 ⟨rfl, hb1⟩
    have B1 := bel_step B0 hb1
    obtain ⟨x0, x1, x2, x3⟩ := box_facts (HX.out.below hb1 HX.out.lt)
    have HQ1 := Lib.hid (HQ.out.bel B1)
    go_wp2_with fail
    (with_reducible refine (H2.out _ HQ1.out).mono ?_)
    rintro e w2 ⟨rfl, hb2⟩
    go_wp2_with fail
    go_ret
    exact ⟨by rw [HF.out]; rfl, bel_step B1 hb2⟩
  have e1 : decide (64 < (m : Int)) = false := by simp; omega
  have e2 : decide ((m : Int) ≤ 64) = true := by simp; omega
  have HP3 : Hid (okQ q = plaQ q) := Lib.hid (by rw [HP2.out, decide_eq_true h64, Bool.true_and])
  have H3 := Lib.hid (fun W hW => HPL.out HSM.out W hW)
  clear HP2 HPL
  generalize plaQ q = b at *
  go_enter Tryz.func14, Tryz.ntmps14
  go_wp2_with fail
  (with_reducible refine (H1.out).mono ?_)
  rintro e w1 ⟨rfl, hb1⟩
  have B1 := bel_step B0 hb1
  have HX1 := Lib.hid (HX.out.below hb1 HX.out.lt)
  obtain ⟨x0, x1, x2, x3⟩ := box_facts HX1.out
  have HQ1 := Lib.hid (HQ.out.bel B1)
  go_wp2_with fail
  (with_reducible refine (H2.out _ HQ1.out).mono ?_)
  rintro e w2 ⟨rfl, hb2⟩
  have B2 := bel_step B1 hb2
  clear x0 x1 x2 x3
  obtain ⟨x0, x1, x2, x3⟩ := box_facts (HX1.out.below hb2 HX1.out.lt)
  have HQ2 := Lib.hid (HQ.out.bel B2)
  go_wp2_with fail
  (with_reducible refine (H3.out _ HQ2.out).mono ?_)
  rintro e w3 ⟨rfl, hb3⟩
  have B3 := bel_step B2 hb3
  cases b with
  | true =>
    go_wp2_with fail
    go_ret
    exact ⟨by rw [HP3.out]; rfl, B3⟩
  | false =>
    go_wp2_with fail
    go_ret
    exact ⟨by rw [HP3.out]; rfl, B3⟩
end Go.Proofs.YtjjlmkleidbmhaaGreatDoor
end
section
namespace Go.Proofs.YtjjlmkleidbmhaaGreatDoor
open Go.RowKit Go.Nst
set_option maxRecDepth 100000
set_option linter.unusedVariables false
set_option linter.unusedSimpArgs false

mutual
/-- the parts of a query that is shown; lf: of a leaf -/
def tokQ (lf : Int → Int → List UInt8 → List UInt8) : Qy → List (List UInt8)
  | ⟨o, n, s, ks⟩ => if o = 5 then tNot :: tokL lf false 5 ks else if o = 3 then tokL lf false 3 ks else if o = 4 then (tokL lf true 4 ks).tail else [lf o n s]
/-- of kids within an operation; sep: each behind 'or' -/
def tokL (lf : Int → Int → List UInt8 → List UInt8) (sep : Bool) (i : Int) : List Qy → List (List UInt8)
  | [] => []
  | k :: ks => (if sep then [tOr] else []) ++ (if k.op = 4 ∨ (k.op = 3 ∧ i ≠ 4) then tOpn :: (tokQ lf k ++ [tCls]) else tokQ lf k) ++ tokL lf sep i ks
end
/-- within an operation -/
def tokK (lf : Int → Int → List UInt8 → List UInt8) (i : Int) (k : Qy) : List (List UInt8) := if k.op = 4 ∨ (k.op = 3 ∧ i ≠ 4) then tOpn :: (tokQ lf k ++ [tCls]) else tokQ lf k
theorem tokL_cons (lf : Int → Int → List UInt8 → List UInt8) (sep : Bool) (i : Int) (k : Qy) (ks : List Qy) : tokL lf sep i (k :: ks) = (if sep then [tOr] else []) ++ tokK lf i k ++ tokL lf sep i ks := by
  simp only [tokL, tokK]
/-- a part that may begin something -/
def goodT (x : List UInt8) : Bool := !(x == []) && !(x == tOr) && !(x == tAnd) && !(x == tCls)
/-- a part that is a term -/
def termT (x : List UInt8) : Bool := goodT x && !(x == tNot) && !(x == tOpn)
/-- what the leaves' texts must be -/
def Lfs (lf : Int → Int → List UInt8 → List UInt8) (tm : List UInt8 → Option Qy) : Prop := ∀ o n s, o ≠ 3 → o ≠ 4 → o ≠ 5 → oneQ o n s 0 = true → termT (lf o n s) = true ∧ tm (lf o n s) = some ⟨o, n, s, []⟩
section
variable {lf : Int → Int → List UInt8 → List UInt8} {tm : List UInt8 → Option Qy}
theorem plaL_mem : ∀ {l : List Qy}, plaL l = true → ∀ k ∈ l, plaQ k = true
  | [], _, k, hk => by cases hk
  | x :: xs, h, k, hk => by
    simp only [plaL, Bool.and_eq_true] at h
    rcases List.mem_cons.1 hk with rfl | hk
    · exact h.1
    · exact plaL_mem h.2 k hk
theorem pla_parts {o n : Int} {s : List UInt8} {ks : List Qy} (h : plaQ ⟨o, n, s, ks⟩ = true) : oneQ o n s ks.length = true ∧ plaL ks = true := by
  simpa [plaQ, Bool.and_eq_true] using h
/-- a leaf has no kids; QNot has one; QAnd, QOr have two or more; these bear nothing else -/
theorem one_kids {o n : Int} {s : List UInt8} {k : Nat} (h : oneQ o n s k = true) : (o = 5 → k = 1 ∧ n = 0 ∧ s = []) ∧ (o = 3 ∨ o = 4 → 2 ≤ k ∧ n = 0 ∧ s = []) ∧ (o ≠ 3 → o ≠ 4 → o ≠ 5 → k = 0) := by
  unfold oneQ numQ txtQ kidQ at h
  simp only [Bool.and_eq_true] at h
  obtain ⟨⟨⟨h1, h2⟩, h3⟩, h4⟩ := h
  refine ⟨?_, ?_, ?_⟩
  · rintro rfl
    simp at h2 h3 h4
    exact ⟨h4, h2, h3⟩
  · rintro (rfl | rfl)
    · simp at h2 h3 h4
      exact ⟨h4.1, h2, h3⟩
    · simp at h2 h3 h4
      exact ⟨h4.1, h2, h3⟩
  · intro a b c
    simpa [a, b, c] using h4
/-- it begins well -/
theorem tok_head (hl : Lfs lf tm) (q : Qy) : plaQ q = true → (∃ x r, tokQ lf q = x :: r ∧ goodT x = true) ∧ ∀ i, ∃ x r, tokK lf i q = x :: r ∧ goodT x = true := by
  refine Qy.ind (p := fun q => plaQ q = true → (∃ x r, tokQ lf q = x :: r ∧ goodT x = true) ∧ ∀ i, ∃ x r, tokK lf i q = x :: r ∧ goodT x = true) ?_ q
  intro o n s ks ih hp
  obtain ⟨h1, h2⟩ := pla_parts hp
  obtain ⟨k1, k2, k3⟩ := one_kids h1
  have hq : ∃ x r, tokQ lf ⟨o, n, s, ks⟩ = x :: r ∧ goodT x = true := by
    simp only [tokQ]
    by_cases h5 : o = 5
    · rw [if_pos h5]
      exact ⟨_, _, rfl, by decide⟩
    rw [if_neg h5]
    by_cases h3 : o = 3
    · rw [if_pos h3]
      obtain ⟨hk, _, _⟩ := k2 (.inl h3)
      cases ks with
      | nil => simp at hk
      | cons k t =>
        obtain ⟨x, r, e, hg⟩ := (ih k (by simp) (plaL_mem h2 k (by simp))).2 3
        refine ⟨x, r ++ tokL lf false 3 t, ?_, hg⟩
        rw [tokL_cons, e]
        rfl
    rw [if_neg h3]
    by_cases h4 : o = 4
    · rw [if_pos h4]
      obtain ⟨hk, _, _⟩ := k2 (.inr h4)
      cases ks with
      | nil => simp at hk
      | cons k t =>
        obtain ⟨x, r, e, hg⟩ := (ih k (by simp) (plaL_mem h2 k (by simp))).2 4
        refine ⟨x, r ++ tokL lf true 4 t, ?_, hg⟩
        rw [tokL_cons, e]
        rfl
    · rw [if_neg h4]
      have hk0 := k3 h3 h4 h5
      rw [hk0] at h1
      obtain ⟨ht, _⟩ := hl o n s h3 h4 h5 h1
      refine ⟨_, _, rfl, ?_⟩
      unfold termT at ht
      simp only [Bool.and_eq_true] at ht
      exact ht.1.1
  refine ⟨hq, fun i => ?_⟩
  unfold tokK
  by_cases hc : (Qy.mk o n s ks).op = 4 ∨ (Qy.mk o n s ks).op = 3 ∧ i ≠ 4
  · rw [if_pos hc]
    exact ⟨_, _, rfl, by decide⟩
  · rw [if_neg hc]
    exact hq

/-- parts of which the texts are these -/
def Txs (l : List Pt) (t : List (List UInt8)) : Prop := l.map Pt.s = t
theorem txs_cons {l : List Pt} {x : List UInt8} {t : List (List UInt8)} (h : Txs l (x :: t)) : ∃ a r, l = a :: r ∧ a.s = x ∧ Txs r t := by
  cases l with
  | nil => cases h
  | cons a r =>
    unfold Txs at h
    rw [List.map_cons] at h
    injection h with h1 h2
    exact ⟨a, r, rfl, h1, h2⟩
theorem txs_app {l : List Pt} {t u : List (List UInt8)} (h : Txs l (t ++ u)) : ∃ a b, l = a ++ b ∧ Txs a t ∧ Txs b u := by
  unfold Txs at h
  rw [List.map_eq_append_iff] at h
  exact h
theorem good_ne {x : List UInt8} (h : goodT x = true) : (x == []) = false ∧ (x == tOr) = false ∧ (x == tAnd) = false ∧ (x == tCls) = false := by
  unfold goodT at h
  simp only [Bool.and_eq_true, Bool.not_eq_true'] at h
  exact ⟨h.1.1.1, h.1.1.2, h.1.2, h.2⟩
theorem good_stop {l : List Pt} (h : goodT (nxt l) = true) : stopA l = false := by
  obtain ⟨a, b, c, d⟩ := good_ne h
  unfold stopA
  rw [a, b, d]
  rfl
/-- one is parsed, whatever is behind -/
def PK (lf : Int → Int → List UInt8 → List UInt8) (tm : List UInt8 → Option Qy) (q : Qy) : Prop := ∀ i, i = 3 ∨ i = 5 → ∀ l t f, Txs l (tokK lf i q) → (l ++ t).length ≤ f → oneF tm f (l ++ t) = .ok q t
def PA (lf : Int → Int → List UInt8 → List UInt8) (tm : List UInt8 → Option Qy) (q : Qy) : Prop := ∀ l t f, Txs l (tokK lf 4 q) → (l ++ t).length ≤ f → stopA t = true → allF (oneF tm f) (l ++ t) = .ok q t
def PQ (lf : Int → Int → List UInt8 → List UInt8) (tm : List UInt8 → Option Qy) (q : Qy) : Prop := ∀ l t f, Txs l (tokQ lf q) → (l ++ t).length ≤ f → stopQ t = true → qryF (oneF tm f) (l ++ t) = .ok q t
theorem one_all {one : List Pt → Rs} {l t : List Pt} {q : Qy} (h : one l = .ok q t) (hs : stopA t = true) : allF one l = .ok q t := by
  unfold allF
  rw [h]
  simp only
  rw [allG_stop hs]
  rfl
theorem stopQ_or {t : List Pt} (h : stopQ t = true) : (nxt t == tOr) = false := by
  unfold stopQ at h
  simp only [Bool.or_eq_true, beq_iff_eq] at h
  rcases h with h | h <;> rw [h] <;> rfl
theorem all_qry {one : List Pt → Rs} {l t : List Pt} {q : Qy} (h : allF one l = .ok q t) (hs : stopQ t = true) : qryF one l = .ok q t := by
  unfold qryF
  rw [h]
  simp only
  rw [qryG_stop (stopQ_or hs)]
  rfl
/-- between ( and ) -/
theorem one_paren {l t : List Pt} {q : Qy} {f : Nat} {a z : Pt} (ha : a.s = tOpn) (hz : z.s = tCls) (h : qryF (oneF tm f) (l ++ z :: t) = .ok q (z :: t)) : oneF tm (f + 1) (a :: (l ++ z :: t)) = .ok q t := by
  simp only [oneF, oneS, nxt, ha, List.tail_cons]
  rw [if_neg (by decide), if_neg (by decide), if_pos (by decide), h]
  simp only [nxt, hz]
  rw [if_pos (by decide)]
  rfl
theorem one_term {a : Pt} {t : List Pt} {q : Qy} {f : Nat} (ha : termT a.s = true) (h : tm a.s = some q) : oneF tm (f + 1) (a :: t) = .ok q t := by
  unfold termT at ha
  simp only [Bool.and_eq_true, Bool.not_eq_true'] at ha
  obtain ⟨⟨hg, h1⟩, h2⟩ := ha
  obtain ⟨g1, g2, g3, g4⟩ := good_ne hg
  simp only [oneF, oneS, nxt, List.tail_cons, g1, g2, g3, g4, h1, h2, h]
  rfl
theorem one_not {a : Pt} {l t : List Pt} {q : Qy} {f : Nat} (ha : a.s = tNot) (h : oneF tm f l = .ok q t) : oneF tm (f + 1) (a :: l) = .ok ⟨5, 0, [], [q]⟩ t := by
  simp only [oneF, oneS, nxt, ha, List.tail_cons]
  rw [if_neg (by decide), if_pos (by decide), h]
/-- the kids of QAnd, one behind the other -/
theorem all_kids (hl : Lfs lf tm) {f : Nat} : ∀ (ks : List Qy), (∀ k ∈ ks, PK lf tm k ∧ plaQ k = true) → ∀ (acc : List Qy) (l t : List Pt) (g : Nat), Txs l (tokL lf false 3 ks) → (l ++ t).length ≤ f → (l ++ t).length ≤ g → stopA t = true → allG (oneF tm f) g acc (l ++ t) = .ok (svl 3 (acc ++ ks)) t := by
  intro ks
  induction ks with
  | nil =>
    intro _ acc l t g hl0 _ _ hs
    have : l = [] := by
      unfold Txs at hl0
      simpa [tokL] using hl0
    subst this
    rw [List.nil_append, allG_stop hs, List.append_nil]
  | cons k ks ih =>
    intro hk acc l t g hx hf hg hs
    obtain ⟨hpk, hpl⟩ := hk k (by simp)
    rw [tokL_cons] at hx
    obtain ⟨a, b, rfl, ha, hb⟩ := txs_app hx
    have ha : Txs a (tokK lf 3 k) := by simpa using ha
    obtain ⟨x, r, e, hgd⟩ := (tok_head hl k hpl).2 3
    obtain ⟨a0, a1, rfl, ha0, _⟩ := txs_cons (by rw [← e]; exact ha)
    have hgn : goodT (nxt (a0 :: a1 ++ b ++ t)) = true := by
      show goodT a0.s = true
      rw [ha0]; exact hgd
    have hst := good_stop hgn
    obtain ⟨_, _, hand, _⟩ := good_ne hgn
    cases g with
    | zero => simp at hg
    | succ g =>
    simp only [allG, hst, hand]
    rw [if_neg (by decide)]
    rw [if_neg (by decide)]
    have h1 := hpk 3 (.inl rfl) (a0 :: a1) (b ++ t) f ha (by simpa using hf)
    rw [List.append_assoc, h1]
    simp only
    have hlen : (b ++ t).length ≤ g := by simp at hg ⊢; omega
    have hlen2 : (b ++ t).length ≤ f := by simp at hf ⊢; omega
    rw [ih (fun k' hk' => hk k' (by simp [hk'])) (acc ++ [k]) b t g hb hlen2 hlen hs]
    rw [List.append_assoc]
    rfl
/-- the kids of QOr, each behind 'or' -/
theorem qry_kids (hl : Lfs lf tm) {f : Nat} : ∀ (ks : List Qy), (∀ k ∈ ks, PA lf tm k ∧ plaQ k = true) → ∀ (acc : List Qy) (l t : List Pt) (g : Nat), Txs l (tokL lf true 4 ks) → (l ++ t).length ≤ f → (l ++ t).length ≤ g → stopQ t = true → qryG (allF (oneF tm f)) g acc (l ++ t) = .ok (svl 4 (acc ++ ks)) t := by
  intro ks
  induction ks with
  | nil =>
    intro _ acc l t g hl0 _ _ hs
    have : l = [] := by
      unfold Txs at hl0
      simpa [tokL] using hl0
    subst this
    rw [List.nil_append, qryG_stop (stopQ_or hs), List.append_nil]
  | cons k ks ih =>
    intro hk acc l t g hx hf hg hs
    obtain ⟨hpk, hpl⟩ := hk k (by simp)
    rw [tokL_cons] at hx
    obtain ⟨ab, b, rfl, hab, hb⟩ := txs_app hx
    have hab : Txs ab (tOr :: tokK lf 4 k) := by simpa using hab
    obtain ⟨z, a, rfl, hz, ha⟩ := txs_cons hab
    cases g with
    | zero => simp at hg
    | succ g =>
    have hor : (nxt (z :: a ++ b ++ t) == tOr) = true := by show (z.s == tOr) = true; rw [hz]; rfl
    simp only [qryG, hor, if_true]
    have hsA : stopA (b ++ t) = true := by
      cases ks with
      | nil =>
        have : b = [] := by unfold Txs at hb; simpa [tokL] using hb
        subst this
        exact stopQ_A hs
      | cons k2 ks2 =>
        rw [tokL_cons] at hb
        obtain ⟨z2, b2, rfl, hz2, _⟩ := txs_cons (show Txs b (tOr :: (tokK lf 4 k2 ++ tokL lf true 4 ks2)) by simpa using hb)
        show stopA (z2 :: (b2 ++ t)) = true
        simp only [stopA, nxt, hz2]
        rfl
    have h1 := hpk a (b ++ t) f ha (by simp at hf ⊢; omega) hsA
    rw [show (z :: a ++ b ++ t).tail = a ++ (b ++ t) by simp, h1]
    simp only
    have hlen : (b ++ t).length ≤ g := by simp at hg ⊢; omega
    have hlen2 : (b ++ t).length ≤ f := by simp at hf ⊢; omega
    rw [ih (fun k' hk' => hk k' (by simp [hk'])) (acc ++ [k]) b t g hb hlen2 hlen hs]
    rw [List.append_assoc]
    rfl
theorem svl_many (o : Int) {l : List Qy} (h : 2 ≤ l.length) : svl o l = ⟨o, 0, [], l⟩ := by
  match l, h with
  | a :: b :: r, _ => rfl
/-- WHAT IS SHOWN IS PARSED -/
theorem shown_parsed (hl : Lfs lf tm) (q : Qy) : plaQ q = true → PK lf tm q ∧ PA lf tm q ∧ PQ lf tm q := by
  refine Qy.ind (p := fun q => plaQ q = true → PK lf tm q ∧ PA lf tm q ∧ PQ lf tm q) ?_ q
  intro o n s ks ih hp
  obtain ⟨h1, h2⟩ := pla_parts hp
  obtain ⟨k1, k2, k3⟩ := one_kids h1
  have hm := plaL_mem h2
  -- what is one by its own parts is all by them
  have basic : (∀ l t f, Txs l (tokQ lf ⟨o, n, s, ks⟩) → (l ++ t).length ≤ f → oneF tm f (l ++ t) = .ok ⟨o, n, s, ks⟩ t) → o ≠ 3 → o ≠ 4 → PK lf tm ⟨o, n, s, ks⟩ ∧ PA lf tm ⟨o, n, s, ks⟩ ∧ PQ lf tm ⟨o, n, s, ks⟩ := by
    intro h h3 h4
    have hk : ∀ i, tokK lf i ⟨o, n, s, ks⟩ = tokQ lf ⟨o, n, s, ks⟩ := fun i => by
      unfold tokK
      rw [if_neg]
      simp only [Qy.op]
      rintro (e | ⟨e, _⟩)
      · exact h4 e
      · exact h3 e
    refine ⟨fun i _ l t f hx hf => h l t f (by rw [← hk i]; exact hx) hf, fun l t f hx hf hs => one_all (h l t f (by rw [← hk 4]; exact hx) hf) hs, fun l t f hx hf hs => all_qry (one_all (h l t f hx hf) (stopQ_A hs)) hs⟩
  -- what is a query by its own parts is one between ( and )
  have paren : PQ lf tm ⟨o, n, s, ks⟩ → ∀ l t f, Txs l (tOpn :: (tokQ lf ⟨o, n, s, ks⟩ ++ [tCls])) → (l ++ t).length ≤ f → oneF tm f (l ++ t) = .ok ⟨o, n, s, ks⟩ t := by
    intro h l t f hx hf
    obtain ⟨a, r, rfl, ha, hr⟩ := txs_cons hx
    obtain ⟨b, c, rfl, hb, hc⟩ := txs_app hr
    obtain ⟨z, c2, rfl, hz, hc2⟩ := txs_cons hc
    have : c2 = [] := by unfold Txs at hc2; simpa using hc2
    subst this
    cases f with
    | zero => simp at hf
    | succ f =>
    have hq := h b (z :: t) f hb (by simp at hf ⊢; omega) (by simp only [stopQ, nxt, hz]; rfl)
    have := one_paren (tm := tm) (f := f) ha hz hq
    simpa using this
  by_cases h5 : o = 5
  · obtain ⟨e1, e2, e3⟩ := k1 h5
    subst h5
    subst e2
    subst e3
    match ks, e1 with
    | [k], _ =>
    refine basic (fun l t f hx hf => ?_) (by decide) (by decide)
    have hx : Txs l (tNot :: tokK lf 5 k) := by
      have e : tokQ lf ⟨5, 0, [], [k]⟩ = tNot :: tokK lf 5 k := by
        simp only [tokQ, if_true, tokL_cons, tokL, List.append_nil]
        rfl
      rw [← e]; exact hx
    obtain ⟨a, r, rfl, ha, hr⟩ := txs_cons hx
    cases f with
    | zero => simp at hf
    | succ f =>
    have := (ih k (by simp) (hm k (by simp))).1 5 (.inr rfl) r t f hr (by simp at hf ⊢; omega)
    exact one_not ha this
  by_cases h3 : o = 3
  · obtain ⟨e1, e2, e3⟩ := k2 (.inl h3)
    subst h3
    subst e2
    subst e3
    have eq : tokQ lf ⟨3, 0, [], ks⟩ = tokL lf false 3 ks := by
      simp only [tokQ]
      rw [if_neg (by decide), if_pos trivial]
    have hall : ∀ l t f, Txs l (tokQ lf ⟨3, 0, [], ks⟩) → (l ++ t).length ≤ f → stopA t = true → allF (oneF tm f) (l ++ t) = .ok ⟨3, 0, [], ks⟩ t := by
      intro l t f hx hf hs
      rw [eq] at hx
      match ks, e1, hx, ih, hm with
      | k :: ks, e1, hx, ih, hm =>
      rw [tokL_cons] at hx
      obtain ⟨a, b, rfl, ha, hb⟩ := txs_app hx
      have ha : Txs a (tokK lf 3 k) := by simpa using ha
      have h1 := (ih k (by simp) (hm k (by simp))).1 3 (.inl rfl) a (b ++ t) f ha (by simpa using hf)
      unfold allF
      rw [List.append_assoc, h1]
      simp only
      have hf2 : (b ++ t).length ≤ f := by simp at hf ⊢; omega
      rw [all_kids hl ks (fun k' hk' => ⟨(ih k' (by simp [hk']) (hm k' (by simp [hk']))).1, hm k' (by simp [hk'])⟩) [k] b t _ hb hf2 (Nat.le_refl _) hs]
      rw [svl_many 3 (by simpa using e1)]
      rfl
    have hqry : PQ lf tm ⟨3, 0, [], ks⟩ := fun l t f hx hf hs => all_qry (hall l t f hx hf (stopQ_A hs)) hs
    refine ⟨fun i hi l t f hx hf => paren hqry l t f ?_ hf, fun l t f hx hf hs => hall l t f ?_ hf hs, hqry⟩
    · have e : tokK lf i ⟨3, 0, [], ks⟩ = tOpn :: (tokQ lf ⟨3, 0, [], ks⟩ ++ [tCls]) := by
        unfold tokK
        rw [if_pos]
        simp only [Qy.op]
        rcases hi with rfl | rfl <;> simp
      rw [← e]; exact hx
    · have e : tokK lf 4 ⟨3, 0, [], ks⟩ = tokQ lf ⟨3, 0, [], ks⟩ := by
        unfold tokK
        rw [if_neg]
        simp [Qy.op]
      rw [← e]; exact hx
  by_cases h4 : o = 4
  · obtain ⟨e1, e2, e3⟩ := k2 (.inr h4)
    subst h4
    subst e2
    subst e3
    have eq : tokQ lf ⟨4, 0, [], ks⟩ = (tokL lf true 4 ks).tail := by
      simp only [tokQ]
      rw [if_neg (by decide), if_neg (by decide), if_pos trivial]
    have hqry : PQ lf tm ⟨4, 0, [], ks⟩ := by
      intro l t f hx hf hs
      rw [eq] at hx
      match ks, e1, hx, ih, hm with
      | k :: ks, e1, hx, ih, hm =>
      rw [tokL_cons] at hx
      obtain ⟨a, b, rfl, ha, hb⟩ := txs_app (show Txs l (tokK lf 4 k ++ tokL lf true 4 ks) by simpa using hx)
      have hsA : stopA (b ++ t) = true := by
        cases ks with
        | nil =>
          have : b = [] := by unfold Txs at hb; simpa [tokL] using hb
          subst this
          exact stopQ_A hs
        | cons kk ks2 =>
          rw [tokL_cons] at hb
          obtain ⟨z2, b2, rfl, hz2, _⟩ := txs_cons (show Txs b (tOr :: (tokK lf 4 kk ++ tokL lf true 4 ks2)) by simpa using hb)
          show stopA (z2 :: (b2 ++ t)) = true
          simp only [stopA, nxt, hz2]
          rfl
      have h1 := (ih k (by simp) (hm k (by simp))).2.1 a (b ++ t) f ha (by simpa using hf) hsA
      unfold qryF
      rw [List.append_assoc, h1]
      simp only
      have hf2 : (b ++ t).length ≤ f := by simp at hf ⊢; omega
      rw [qry_kids hl ks (fun k' hk' => ⟨(ih k' (by simp [hk']) (hm k' (by simp [hk']))).2.1, hm k' (by simp [hk'])⟩) [k] b t _ hb hf2 (Nat.le_refl _) hs]
      rw [svl_many 4 (by simpa using e1)]
      rfl
    have e : ∀ i, tokK lf i ⟨4, 0, [], ks⟩ = tOpn :: (tokQ lf ⟨4, 0, [], ks⟩ ++ [tCls]) := fun i => by
      unfold tokK
      rw [if_pos]
      simp [Qy.op]
    exact ⟨fun i hi l t f hx hf => paren hqry l t f (by rw [← e i]; exact hx) hf, fun l t f hx hf hs => one_all (paren hqry l t f (by rw [← e 4]; exact hx) hf) hs, hqry⟩
  · have hk0 := k3 h3 h4 h5
    rw [hk0] at h1
    have : ks = [] := List.eq_nil_of_length_eq_zero hk0
    subst this
    obtain ⟨ht, htm⟩ := hl o n s h3 h4 h5 h1
    refine basic (fun l t f hx hf => ?_) h3 h4
    have eq : tokQ lf ⟨o, n, s, []⟩ = [lf o n s] := by
      simp only [tokQ]
      rw [if_neg h5, if_neg h3, if_neg h4]
    rw [eq] at hx
    obtain ⟨a, r, rfl, ha, hr⟩ := txs_cons hx
    have : r = [] := by unfold Txs at hr; simpa using hr
    subst this
    cases f with
    | zero => simp at hf
    | succ f =>
    show oneF tm (f + 1) (a :: t) = _
    exact one_term (by rw [ha]; exact ht) (by rw [ha]; exact htm)
end
end Go.Proofs.YtjjlmkleidbmhaaGreatDoor
end
