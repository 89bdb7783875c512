/-
  Queries' texts and what they lean on, part 2: only what the claims need.
-/
import Derived.Test.YtjjlmkleidbmhaaGreatDoorZ01
import Derived.Deep.QuietTactic
import Derived.BigQuiet
section
namespace Go.Proofs.YtjjlmkleidbmhaaGreatDoor
open Go.RowKit Go.Nst
set_option maxRecDepth 100000
set_option linter.unusedVariables false
set_option linter.unusedSimpArgs false

set_option maxHeartbeats 1000000 in
theorem depth_any (q : Qy) : ∀ (a : Nat) (vs : Array Value) (w : World) (S : Nat → Prop), a ≤ 65 → QAt w S vs q → Calls Tryz.prog 50 #[.agg vs, .int .i64 (a : Int)] w fun e w' => e = .returned (.int .i64 (depQ q a : Int)) ∧ Below w.heap.size w w' := by
  refine Qy.ind (p := fun q => ∀ (a : Nat) (vs : Array Value) (w : World) (S : Nat → Prop), a ≤ 65 → QAt w S vs q → Calls Tryz.prog 50 #[.agg vs, .int .i64 (a : Int)] w fun e w' => e = .returned (.int .i64 (depQ q a : Int)) ∧ Below w.heap.size w w') ?_ q
  intro o n s l ih a vs w S ha hq
  obtain ⟨A, c, rfl, ho, hn, hs, hc1, hc2, hk⟩ := hq.open_
  simp only [Qy.op, Qy.n, Qy.s, Qy.kids, qV] at *
  have B0 := bel_alloc (Below.refl w.heap.size w) (.cells #[.int .i64 o, .int .i64 n, .string ⟨s.toArray⟩, .slice A l.length c] 25)
  by_cases h64 : 64 < a
  · have hd : depQ ⟨o, n, s, l⟩ a = a := by simp only [depQ]; rw [if_pos h64]
    have HD := Lib.hid hd
    have h64' : (64 : Int) < a := by omega
    clear hd ih
    have h64b : decide (64 < (a : Int)) = true := by simpa using h64'
    go_enter Tryz.func50, Tryz.ntmps50
    go_wp2_with fail
    go_ret
    exact ⟨by rw [HD.out]; rfl, B0⟩
  · have hd : depQ ⟨o, n, s, l⟩ a = depL l a a := by simp only [depQ]; rw [if_neg h64]
    have HD := Lib.hid hd
    have h64' : (a : Int) ≤ 64 := by omega
    have h64b : decide (64 < (a : Int)) = false := by simpa using h64'
    clear hd
    have HI := Lib.hid ih
    clear ih hq
    go_enter Tryz.func50, Tryz.ntmps50
    go_wp2_with fail
    go_loopw [5, 15] (fun m i wr => ∃ k : Nat, k ≤ l.length ∧ i = .int .i64 k ∧ m = .int .i64 (depL (l.take k) a a : Int) ∧ Below w.heap.size w wr) (fun _ i _ => l.length - (intOf i).toNat)
    case atStart => exact ⟨0, Nat.zero_le _, rfl, rfl, B0⟩
    case round =>
      obtain ⟨k, hkl, rfl, rfl, hb⟩ := hrel
      have hkw := hk.bel hb
      by_cases hlt : k < l.length
      · obtain ⟨q, B, c', b, off, hg, rfl, -, hbs, hq', g1, g2, g3, g4, g5, f0, f1, f2, f3⟩ := hkw.at hlt
        have hmem : q ∈ l := List.mem_of_getElem? hg.out
        have hsn : l.take (k + 1) = l.take k ++ [q] := by rw [List.take_add_one, hg.out]; rfl
        have hd2 : depL (l.take (k + 1)) a a = max (depL (l.take k) a a) (depQ q (a + 1)) := by rw [hsn, depL_snoc]
        have hm1 := depL_65 (l.take k) a a (by omega) (by omega)
        have hm2 := depQ_65 q (a + 1) (by omega)
        have HD2 := Lib.hid hd2
        have HM := Lib.hid hmem
        have hqb := hq'.out.bel (bel_alloc (Below.refl wr.heap.size wr) (.cells (qV q.op q.n q.s B q.kids.length c') 25))
        have hca := HI.out q HM.out (a + 1) _ _ S (by omega) hqb
        have HC := Lib.hid hca
        have ecast : (((a + 1 : Nat)) : Int) = (a : Int) + 1 := by omega
        rw [ecast] at HC
        clear hd2 hmem hsn hqb hca ecast hq'
        simp only [qV] at HC
        generalize depL (l.take k) a a = m at *
        generalize depQ q (a + 1) = d at *
        go_wp2_with fail
        (with_reducible refine (HC.out).mono ?_)
        rintro e w2 ⟨rfl, hb2⟩
        have B2 := bel_step (bel_alloc hb (.cells #[.int .i64 q.op, .int .i64 q.n, .string ⟨q.s.toArray⟩, .slice B q.kids.length c'] 25)) hb2
        go_wp2_with fail
        go_roundw
        case rel => exact ⟨k + 1, by omega, by go_num, by rw [HD2.out]; congr 1; (repeat' split) <;> omega, B2⟩
        case measure => simp [intOf]; omega
      · obtain rfl : k = l.length := by omega
        go_wp2_with fail
        go_ret
        exact ⟨by rw [HD.out, List.take_length]; rfl, hb⟩

/-- a query that was boxed at block g -/
theorem box_facts {w : World} {g : Nat} {o n : Int} {s : List UInt8} {A : Option Addr} {k c : Nat} (h : Blk w g 25 (qV o n s A k c)) : w.cell? ⟨g, 0, none⟩ = some (.int .i64 o) ∧ w.cell? ⟨g, 1, none⟩ = some (.int .i64 n) ∧ w.cell? ⟨g, 2, none⟩ = some (.string ⟨s.toArray⟩) ∧ w.cell? ⟨g, 3, none⟩ = some (.slice A k c) := ⟨h.cell 0, h.cell 1, h.cell 2, h.cell 3⟩
def depthP (f : FuncId) (q : Qy) : Prop := ∀ (a : Nat) (vs : Array Value) (w : World) (S : Nat → Prop), a ≤ 65 → QAt w S vs q → Calls Tryz.prog f #[.agg vs, .int .i64 (a : Int)] w fun e w' => e = .returned (.int .i64 (depQ q a : Int)) ∧ Below w.heap.size w w'
set_option maxHeartbeats 1000000 in
theorem refDepth25_any (q : Qy) : depthP 43 q := by
  refine Qy.ind (p := depthP 43) ?_ q
  intro o n s l ih a vs w S ha hq
  obtain ⟨A, c, rfl, ho, hn, hs, hc1, hc2, hk⟩ := hq.open_
  simp only [Qy.op, Qy.n, Qy.s, Qy.kids, qV] at *
  have B0 := bel_alloc (Below.refl w.heap.size w) (.cells #[.int .i64 o, .int .i64 n, .string ⟨s.toArray⟩, .slice A l.length c] 25)
  have X0 := Blk.new w 25 (qV o n s A l.length c)
  by_cases h64 : 64 < a
  · have hd : depQ ⟨o, n, s, l⟩ a = a := by simp only [depQ]; rw [if_pos h64]
    have HD := Lib.hid hd
    have h64b : decide (64 < (a : Int)) = true := by simp; omega
    clear hd ih
    go_enter Tryz.func43, Tryz.ntmps43
    go_wp2_with fail
    go_ret
    exact ⟨by rw [HD.out]; rfl, B0⟩
  · have hd : depQ ⟨o, n, s, l⟩ a = depL l a a := by simp only [depQ]; rw [if_neg h64]
    have HD := Lib.hid hd
    have h64' : (a : Int) ≤ 64 := by omega
    have h64b : decide (64 < (a : Int)) = false := by simpa using h64'
    clear hd
    have HI := Lib.hid ih
    clear ih hq
    go_enter Tryz.func43, Tryz.ntmps43
    go_wp2_with fail
    go_loopw [5, 6] (fun m i wr => ∃ k : Nat, k ≤ l.length ∧ i = .int .i64 k ∧ m = .int .i64 (depL (l.take k) a a : Int) ∧ Blk wr w.heap.size 25 (qV o n s A l.length c) ∧ Below w.heap.size w wr) (fun _ i _ => l.length - (intOf i).toNat)
    case atStart => exact ⟨0, Nat.zero_le _, rfl, rfl, X0, B0⟩
    case round =>
      obtain ⟨k, hkl, rfl, rfl, hx, hb⟩ := hrel
      have hkw := hk.bel hb
      obtain ⟨-, -, -, x3⟩ := box_facts hx
      by_cases hlt : k < l.length
      · obtain ⟨q, B, c', b, off, hg, rfl, -, hbs, hq', g1, g2, g3, g4, g5, f0, f1, f2, f3⟩ := hkw.at hlt
        have hmem : q ∈ l := List.mem_of_getElem? hg.out
        have hsn : l.take (k + 1) = l.take k ++ [q] := by rw [List.take_add_one, hg.out]; rfl
        have hd2 : depL (l.take (k + 1)) a a = max (depL (l.take k) a a) (depQ q (a + 1)) := by rw [hsn, depL_snoc]
        have hm1 := depL_65 (l.take k) a a (by omega) (by omega)
        have hm2 := depQ_65 q (a + 1) (by omega)
        have HD2 := Lib.hid hd2
        have HM := Lib.hid hmem
        have HC := Lib.hid (HI.out q HM.out (a + 1) _ _ S (by omega) hq'.out)
        rw [show (((a + 1 : Nat)) : Int) = (a : Int) + 1 by omega] at HC
        clear hd2 hmem hsn hq'
        simp only [qV] at HC
        generalize depL (l.take k) a a = m at *
        generalize depQ q (a + 1) = d at *
        have HX := Lib.hid hx
        clear hx
        go_wp2_with fail
        (with_reducible refine (HC.out).mono ?_)
        rintro e w2 ⟨rfl, hb2⟩
        have B2 := bel_step hb hb2
        have hx2 := HX.out.below hb2 HX.out.lt
        by_cases hmd : m < d
        · have hmdb : decide ((m : Int) < (d : Int)) = true := by simp; omega
          have hmdb2 : decide (m < d) = true := by simpa using hmd
          go_wp2_with fail
          go_roundw
          case rel => exact ⟨k + 1, by omega, by go_num, by rw [HD2.out]; congr 1; omega, hx2, B2⟩
          case measure => simp [intOf]; omega
        · have hmdb : decide ((m : Int) < (d : Int)) = false := by simp; omega
          have hmdb2 : decide (m < d) = false := by simpa using hmd
          go_wp2_with fail
          go_roundw
          case rel => exact ⟨k + 1, by omega, by go_num, by rw [HD2.out]; congr 1; omega, hx2, B2⟩
          case measure => simp [intOf]; omega
      · obtain rfl : k = l.length := by omega
        have HX := Lib.hid hx
        clear hx
        go_wp2_with fail
        go_ret
        exact ⟨by rw [HD.out, List.take_length]; rfl, hb⟩
def intP (f : FuncId) (P : Qy → Prop) (F : Qy → Int) (q : Qy) : Prop := ∀ (vs : Array Value) (w : World) (S : Nat → Prop), P q → QAt w S vs q → Calls Tryz.prog f #[.agg vs] w fun e w' => e = .returned (.int .i64 (F q)) ∧ Below w.heap.size w w'
theorem Depth25_any (q : Qy) : intP 34 (fun _ => True) (fun q => (depQ q 1 : Int)) q := by
  intro vs w S _ hq
  have B0 := bel_alloc (Below.refl w.heap.size w) (.cells vs 25)
  have HC := Lib.hid (show Calls Tryz.prog 50 #[.agg vs, .int .i64 1] _ _ from depth_any q 1 vs _ S (by omega) (hq.bel B0))
  obtain ⟨A, c, rfl, ho, hn, hs, hc1, hc2, hk⟩ := hq.open_
  simp only [qV] at *
  go_enter Tryz.func34, Tryz.ntmps34
  go_wp2_with fail
  (with_reducible refine (HC.out).mono ?_)
  rintro e w2 ⟨rfl, hb2⟩
  go_wp2_with fail
  go_ret
  exact ⟨rfl, bel_step B0 hb2⟩
theorem refDepth_any25 (q : Qy) : intP 26 (fun _ => True) (fun q => (depQ q 1 : Int)) q := by
  intro vs w S _ hq
  have B0 := bel_alloc (Below.refl w.heap.size w) (.cells vs 25)
  have HC := Lib.hid (show Calls Tryz.prog 43 #[.agg vs, .int .i64 1] _ _ from refDepth25_any q 1 vs _ S (by omega) (hq.bel B0))
  obtain ⟨A, c, rfl, ho, hn, hs, hc1, hc2, hk⟩ := hq.open_
  simp only [qV] at *
  go_enter Tryz.func26, Tryz.ntmps26
  go_wp2_with fail
  (with_reducible refine (HC.out).mono ?_)
  rintro e w2 ⟨rfl, hb2⟩
  go_wp2_with fail
  go_ret
  exact ⟨rfl, bel_step B0 hb2⟩
def nodK (q : Qy) : Prop := nodQ q ≤ 1000000000000
set_option maxHeartbeats 1000000 in
theorem nodes25_any (q : Qy) : intP 35 nodK (fun q => (nodQ q : Int)) q := by
  refine Qy.ind (p := intP 35 nodK (fun q => (nodQ q : Int))) ?_ q
  intro o n s l ih vs w S ha hq
  unfold nodK at ha
  obtain ⟨A, c, rfl, ho, hn, hs, hc1, hc2, hk⟩ := hq.open_
  simp only [Qy.op, Qy.n, Qy.s, Qy.kids, qV] at *
  have B0 := bel_alloc (Below.refl w.heap.size w) (.cells #[.int .i64 o, .int .i64 n, .string ⟨s.toArray⟩, .slice A l.length c] 25)
  have hd : nodQ ⟨o, n, s, l⟩ = nodL l 1 := by simp only [nodQ]
  have HD := Lib.hid hd
  rw [hd] at ha
  have HI := Lib.hid ih
  have HB := Lib.hid ha
  clear ih hq hd ha
  go_enter Tryz.func35, Tryz.ntmps35
  go_wp2_with fail
  go_loopw [3, 9] (fun m i wr => ∃ k : Nat, k ≤ l.length ∧ i = .int .i64 k ∧ m = .int .i64 (nodL (l.take k) 1 : Int) ∧ Below w.heap.size w wr) (fun _ i _ => l.length - (intOf i).toNat)
  case atStart => exact ⟨0, Nat.zero_le _, rfl, rfl, B0⟩
  case round =>
    obtain ⟨k, hkl, rfl, rfl, hb⟩ := hrel
    have hkw := hk.bel hb
    by_cases hlt : k < l.length
    · obtain ⟨q, B, c', b, off, hg, rfl, -, hbs, hq', g1, g2, g3, g4, g5, f0, f1, f2, f3⟩ := hkw.at hlt
      have hmem : q ∈ l := List.mem_of_getElem? hg.out
      have hsn : l.take (k + 1) = l.take k ++ [q] := by rw [List.take_add_one, hg.out]; rfl
      have hd2 : nodL (l.take (k + 1)) 1 = nodL (l.take k) 1 + nodQ q := by rw [hsn, nodL_snoc]
      have hm1 := nodL_take l 1 (k + 1)
      have hm2 := HB.out
      have hqb := hq'.out.bel (bel_alloc (Below.refl wr.heap.size wr) (.cells (qV q.op q.n q.s B q.kids.length c') 25))
      have HC := Lib.hid (HI.out q hmem _ _ S (by unfold nodK; omega) hqb)
      have h1 : nodL (l.take k) 1 + nodQ q ≤ 1000000000000 := by omega
      have HD2 := Lib.hid hd2
      clear hd2 hmem hsn hqb hq' hm1 hm2
      simp only [qV] at HC
      generalize nodL (l.take k) 1 = m at *
      generalize nodQ q = d at *
      go_wp2_with fail
      (with_reducible refine (HC.out).mono ?_)
      rintro e w2 ⟨rfl, hb2⟩
      have B2 := bel_step (bel_alloc hb (.cells #[.int .i64 q.op, .int .i64 q.n, .string ⟨q.s.toArray⟩, .slice B q.kids.length c'] 25)) hb2
      go_wp2_with fail
      go_roundw
      case rel => exact ⟨k + 1, by omega, by go_num, by rw [HD2.out]; congr 1, B2⟩
      case measure => simp [intOf]; omega
    · obtain rfl : k = l.length := by omega
      go_wp2_with fail
      go_ret
      exact ⟨by rw [HD.out, List.take_length]; rfl, hb⟩
set_option maxHeartbeats 1000000 in
theorem refNodes25_any (q : Qy) : intP 27 nodK (fun q => (nodQ q : Int)) q := by
  refine Qy.ind (p := intP 27 nodK (fun q => (nodQ q : Int))) ?_ q
  intro o n s l ih vs w S ha hq
  unfold nodK at ha
  obtain ⟨A, c, rfl, ho, hn, hs, hc1, hc2, hk⟩ := hq.open_
  simp only [Qy.op, Qy.n, Qy.s, Qy.kids, qV] at *
  have B0 := bel_alloc (Below.refl w.heap.size w) (.cells #[.int .i64 o, .int .i64 n, .string ⟨s.toArray⟩, .slice A l.length c] 25)
  have X0 := Blk.new w 25 (qV o n s A l.length c)
  have hd : nodQ ⟨o, n, s, l⟩ = nodL l 1 := by simp only [nodQ]
  have HD := Lib.hid hd
  rw [hd] at ha
  have HI := Lib.hid ih
  have HB := Lib.hid ha
  clear ih hq hd ha
  go_enter Tryz.func27, Tryz.ntmps27
  go_wp2_with fail
  go_loopw [3, 4] (fun m i wr => ∃ k : Nat, k ≤ l.length ∧ i = .int .i64 k ∧ m = .int .i64 (nodL (l.take k) 1 : Int) ∧ Blk wr w.heap.size 25 (qV o n s A l.length c) ∧ Below w.heap.size w wr) (fun _ i _ => l.length - (intOf i).toNat)
  case atStart => exact ⟨0, Nat.zero_le _, rfl, rfl, X0, B0⟩
  case round =>
    obtain ⟨k, hkl, rfl, rfl, hx, hb⟩ := hrel
    have hkw := hk.bel hb
    obtain ⟨-, -, -, x3⟩ := box_facts hx
    by_cases hlt : k < l.length
    · obtain ⟨q, B, c', b, off, hg, rfl, -, hbs, hq', g1, g2, g3, g4, g5, f0, f1, f2, f3⟩ := hkw.at hlt
      have hmem : q ∈ l := List.mem_of_getElem? hg.out
      have hsn : l.take (k + 1) = l.take k ++ [q] := by rw [List.take_add_one, hg.out]; rfl
      have hd2 : nodL (l.take (k + 1)) 1 = nodL (l.take k) 1 + nodQ q := by rw [hsn, nodL_snoc]
      have hm1 := nodL_take l 1 (k + 1)
      have hm2 := HB.out
      have HC := Lib.hid (HI.out q hmem _ _ S (by unfold nodK; omega) hq'.out)
      have h1 : nodL (l.take k) 1 + nodQ q ≤ 1000000000000 := by omega
      have HD2 := Lib.hid hd2
      clear hd2 hmem hsn hq' hm1 hm2
      simp only [qV] at HC
      generalize nodL (l.take k) 1 = m at *
      generalize nodQ q = d at *
      have HX := Lib.hid hx
      clear hx
      go_wp2_with fail
      (with_reducible refine (HC.out).mono ?_)
      rintro e w2 ⟨rfl, hb2⟩
      have B2 := bel_step hb hb2
      have hx2 := HX.out.below hb2 HX.out.lt
      go_wp2_with fail
      go_roundw
      case rel => exact ⟨k + 1, by omega, by go_num, by rw [HD2.out]; congr 1, hx2, B2⟩
      case measure => simp [intOf]; omega
    · obtain rfl : k = l.length := by omega
      have HX := Lib.hid hx
      clear hx
      go_wp2_with fail
      go_ret
      exact ⟨by rw [HD.out, List.take_length]; rfl, hb⟩
end Go.Proofs.YtjjlmkleidbmhaaGreatDoor
end
section
namespace Go.Proofs.YtjjlmkleidbmhaaGreatDoor
open Go.RowKit Go.Nst
set_option maxRecDepth 100000
set_option linter.unusedVariables false
set_option linter.unusedSimpArgs false

def leftP (q : Qy) : Prop := ∀ (d : Nat) (m : Int) (vs : Array Value) (w : World) (S : Nat → Prop), d ≤ 70 → 0 ≤ m → m ≤ 300 → QAt w S vs q → Calls Tryz.prog 24 #[.agg vs, .int .i64 (d : Int), .int .i64 m] w fun e w' => e = .returned (.int .i64 (leftQ q d m)) ∧ Below w.heap.size w w'
theorem leftL_snoc : ∀ (l : List Qy) (k : Qy) (d : Nat) (m : Int), 0 < leftL l d m → d < 70 → leftL (l ++ [k]) d m = leftQ k (d + 1) (leftL l d m)
  | [], k, d, m, h, hd => by
    have h' : 0 < m := by simpa [leftL] using h
    simp [leftL, h', hd]
  | x :: xs, k, d, m, h, hd => by
    rcases Classical.em (0 < m ∧ d < 70) with h2 | h2
    · have e1 : leftL (x :: xs) d m = leftL xs d (leftQ x (d + 1) m) := by simp [leftL, h2]
      have e2 : leftL (x :: xs ++ [k]) d m = leftL (xs ++ [k]) d (leftQ x (d + 1) m) := by simp [leftL, h2]
      rw [e1] at h ⊢
      rw [e2]
      exact leftL_snoc xs k d _ h hd
    · have e1 : leftL (x :: xs) d m = m := leftL_stop _ _ _ h2
      rw [e1] at h
      exact absurd ⟨h, hd⟩ h2
theorem leftL_stays : ∀ (l : List Qy) (k : Nat) (d : Nat) (m : Int), ¬ (0 < leftL (l.take k) d m ∧ d < 70) → leftL l d m = leftL (l.take k) d m
  | [], k, d, m, _ => by simp
  | x :: xs, 0, d, m, h => by
    simp only [List.take_zero, leftL] at h ⊢
    rw [if_neg h]
  | x :: xs, k + 1, d, m, h => by
    simp only [List.take_succ_cons, leftL] at h ⊢
    by_cases h2 : 0 < m ∧ d < 70
    · rw [if_pos h2] at h ⊢; rw [if_pos h2]; exact leftL_stays xs k d _ h
    · rw [if_neg h2, if_neg h2]
theorem leftL_mono (l : List Qy) : ∀ (d : Nat) (m : Int), leftL l d m ≤ m := by
  induction l with
  | nil => intro d m; simp [leftL]
  | cons x xs ih =>
    intro d m
    simp only [leftL]
    split
    · have h1 := ih d (leftQ x (d + 1) m)
      have h2 := left_mono x (d + 1) m
      omega
    · omega
set_option maxHeartbeats 2000000 in
theorem left25_any (q : Qy) : leftP q := by
  refine Qy.ind (p := leftP) ?_ q
  intro o n s l ih d m vs w S hd hm0 hm1 hq
  obtain ⟨A, c, rfl, ho, hn, hs, hc1, hc2, hk⟩ := hq.open_
  simp only [Qy.op, Qy.n, Qy.s, Qy.kids, qV] at *
  have B0 := bel_alloc (Below.refl w.heap.size w) (.cells #[.int .i64 o, .int .i64 n, .string ⟨s.toArray⟩, .slice A l.length c] 25)
  have X0 := Blk.new w 25 (qV o n s A l.length c)
  have hl : leftQ ⟨o, n, s, l⟩ d m = leftL l d (m - 1 - (s.length : Int) / 20) := by simp only [leftQ]
  have HD := Lib.hid hl
  have HI := Lib.hid ih
  clear ih hq hl
  have hs20 : 0 ≤ (s.length : Int) / 20 := by omega
  have hs21 : (s.length : Int) / 20 ≤ 500000000000000000 := by omega
  go_enter Tryz.func24, Tryz.ntmps24
  go_wp2_with fail
  have hmm : m - 1 - (s.length : Int) / 20 ≤ 299 := by omega
  have hmm0 : -600000000000000000 ≤ m - 1 - (s.length : Int) / 20 := by omega
  generalize m - 1 - (s.length : Int) / 20 = m0 at *
  go_loopw [2, 7] (fun m i wr => ∃ k : Nat, k ≤ l.length ∧ i = .int .i64 k ∧ m = .int .i64 (leftL (l.take k) d m0) ∧ Blk wr w.heap.size 25 (qV o n s A l.length c) ∧ Below w.heap.size w wr) (fun _ i _ => l.length - (intOf i).toNat)
  case atStart => exact ⟨0, Nat.zero_le _, rfl, rfl, X0, B0⟩
  case round =>
    obtain ⟨k, hkl, rfl, rfl, hx, hb⟩ := hrel
    have hkw := hk.bel hb
    obtain ⟨-, -, -, x3⟩ := box_facts hx
    by_cases hlt : k < l.length
    · by_cases hgo : 0 < leftL (l.take k) d m0 ∧ d < 70
      · obtain ⟨q, B, c', b, off, hg, rfl, -, hbs, hq', g1, g2, g3, g4, g5, f0, f1, f2, f3⟩ := hkw.at hlt
        have hmem : q ∈ l := List.mem_of_getElem? hg.out
        have hsn : l.take (k + 1) = l.take k ++ [q] := by rw [List.take_add_one, hg.out]; rfl
        have hd2 : leftL (l.take (k + 1)) d m0 = leftQ q (d + 1) (leftL (l.take k) d m0) := by rw [hsn, leftL_snoc _ _ _ _ hgo.1 hgo.2]
        have hm3 := leftL_mono (l.take k) d m0
        have HC := Lib.hid (HI.out q hmem (d + 1) (leftL (l.take k) d m0) _ _ S (by omega) (by omega) (by omega) hq'.out)
        rw [show (((d + 1 : Nat)) : Int) = (d : Int) + 1 by omega] at HC
        have HD2 := Lib.hid hd2
        obtain ⟨hg1, hg2⟩ := hgo
        clear hd2 hmem hsn hq'
        simp only [qV] at HC
        have hlt' : decide (k < l.length) = true := by simpa using hlt
        have hp : decide (0 < leftL (l.take k) d m0) = true := by simpa using hg1
        have hd7 : decide ((d : Int) < 70) = true := by simp; omega
        generalize leftL (l.take k) d m0 = m at *
        have HX := Lib.hid hx
        clear hx
        go_wp2_with fail
        (with_reducible refine (HC.out).mono ?_)
        rintro e w2 ⟨rfl, hb2⟩
        have B2 := bel_step hb hb2
        have hx2 := HX.out.below hb2 HX.out.lt
        go_wp2_with fail
        go_roundw
        case rel => exact ⟨k + 1, by omega, by go_num, by rw [HD2.out], hx2, B2⟩
        case measure => simp [intOf]; omega
      · have hst := leftL_stays l k d m0 hgo
        have HST := Lib.hid hst
        have hlt' : decide (k < l.length) = true := by simpa using hlt
        have HX := Lib.hid hx
        clear hst hx
        by_cases hp : 0 < leftL (l.take k) d m0
        · have hp' : decide (0 < leftL (l.take k) d m0) = true := by simpa using hp
          have hd7 : decide ((d : Int) < 70) = false := by simp; omega
          generalize leftL (l.take k) d m0 = m at *
          go_wp2_with fail
          go_ret
          exact ⟨by rw [HD.out, HST.out]; rfl, hb⟩
        · have hp' : decide (0 < leftL (l.take k) d m0) = false := by simpa using hp
          generalize leftL (l.take k) d m0 = m at *
          go_wp2_with fail
          go_ret
          exact ⟨by rw [HD.out, HST.out]; rfl, hb⟩
    · obtain rfl : k = l.length := by omega
      have HX := Lib.hid hx
      clear hx
      go_wp2_with fail
      go_ret
      exact ⟨by rw [HD.out, List.take_length]; rfl, hb⟩
theorem Large25_any (q : Qy) (vs : Array Value) (w : World) (S : Nat → Prop) (hq : QAt w S vs q) : Calls Tryz.prog 12 #[.agg vs] w fun e w' => e = .returned (.bool (decide (leftQ q 0 300 ≤ 0))) ∧ Below w.heap.size w w' := by
  have B0 := bel_alloc (Below.refl w.heap.size w) (.cells vs 25)
  have HC := Lib.hid (show Calls Tryz.prog 24 #[.agg vs, .int .i64 0, .int .i64 300] _ _ from left25_any q 0 300 vs _ S (by omega) (by omega) (by omega) (hq.bel B0))
  obtain ⟨A, c, rfl, ho, hn, hs, hc1, hc2, hk⟩ := hq.open_
  simp only [qV] at *
  go_enter Tryz.func12, Tryz.ntmps12
  go_wp2_with fail
  (with_reducible refine (HC.out).mono ?_)
  rintro e w2 ⟨rfl, hb2⟩
  go_wp2_with fail
  go_ret
  exact ⟨rfl, bel_step B0 hb2⟩
def sameP (f : FuncId) (q : Qy) : Prop := ∀ (q2 : Qy) (a : Nat) (vs v2 : Array Value) (w : World) (S S2 : Nat → Prop), a ≤ 65 → QAt w S vs q → QAt w S2 v2 q2 → Calls Tryz.prog f #[.agg vs, .agg v2, .int .i64 (a : Int)] w fun e w' => e = .returned (.bool (samQ q q2 a)) ∧ Below w.heap.size w w'
theorem samL_snoc : ∀ (l l' : List Qy) (x y : Qy) (a : Nat), l.length = l'.length → samL (l ++ [x]) (l' ++ [y]) a = (samL l l' a && samQ x y a)
  | [], [], x, y, a, _ => by simp [samL]
  | z :: zs, u :: us, x, y, a, h => by
    simp only [List.cons_append, samL, samL_snoc zs us x y a (by simpa using h), Bool.and_assoc]
theorem samL_take : ∀ (l l' : List Qy) (k a : Nat), samL (l.take k) (l'.take k) a = false → samL l l' a = false
  | [], l', k, a, h => by simp [samL] at h
  | x :: xs, [], k, a, h => by cases k <;> simp [samL] at h
  | x :: xs, y :: ys, 0, a, h => by simp [samL] at h
  | x :: xs, y :: ys, k + 1, a, h => by
    simp only [List.take_succ_cons, samL, Bool.and_eq_false_iff] at h ⊢
    rcases h with h | h
    · exact .inl h
    · exact .inr (samL_take xs ys k a h)
end Go.Proofs.YtjjlmkleidbmhaaGreatDoor
end
section
namespace Go.Proofs.YtjjlmkleidbmhaaGreatDoor
open Go.RowKit Go.Nst
set_option maxRecDepth 100000
set_option linter.unusedVariables false
set_option linter.unusedSimpArgs false

/-- what a cell holds it holds in every world that has only grown since -/
theorem later {w : World} {p : Addr} {u : Value} (h : w.cell? p = some u) : ∀ W, Below w.heap.size w W → W.cell? p = some u := fun W hW => (hW.cell (World.block_lt_of_cell? w p h)).trans h
set_option maxHeartbeats 4000000 in
theorem refSame25_any (q : Qy) : sameP 23 q := by
  refine Qy.ind (p := sameP 23) ?_ q
  intro o n s l ih q2 a vs v2 w S S2 ha hq hq2
  obtain ⟨A, c, rfl, ho, hn, hs, hc1, hc2, hk⟩ := hq.open_
  obtain ⟨A2, c2, rfl, ho2, hn2, hs2, hc12, hc22, hk2⟩ := hq2.open_
  obtain ⟨o2, n2, s2, l2⟩ := q2
  simp only [Qy.op, Qy.n, Qy.s, Qy.kids, qV] at *
  have B0 := bel_alloc (bel_alloc (Below.refl w.heap.size w) (.cells #[.int .i64 o, .int .i64 n, .string ⟨s.toArray⟩, .slice A l.length c] 25)) (.cells #[.int .i64 o2, .int .i64 n2, .string ⟨s2.toArray⟩, .slice A2 l2.length c2] 25)
  have X0 := (Blk.new w 25 (qV o n s A l.length c)).alloc (.cells (qV o2 n2 s2 A2 l2.length c2) 25)
  have Y0 := Blk.new (w.alloc (.cells (qV o n s A l.length c) 25)) 25 (qV o2 n2 s2 A2 l2.length c2)
  rw [show (w.alloc (.cells (qV o n s A l.length c) 25)).heap.size = w.heap.size + 1 by simp] at Y0
  have HI := Lib.hid ih
  clear ih hq hq2
  by_cases h1 : 64 < a
  · have hb1 : decide (64 < (a : Int)) = true := by simp; omega
    have hf : samQ ⟨o, n, s, l⟩ ⟨o2, n2, s2, l2⟩ a = false := by simp [samQ, h1]
    have HF := Lib.hid hf
    clear hf
    go_enter Tryz.func23, Tryz.ntmps23
    go_wp2_with fail
    go_ret
    exact ⟨by rw [HF.out]; rfl, B0⟩
  have hb1 : decide (64 < (a : Int)) = false := by simp; omega
  by_cases h2 : o = o2
  case neg =>
    have hb2 : (o != o2) = true := by simpa using h2
    have hf : samQ ⟨o, n, s, l⟩ ⟨o2, n2, s2, l2⟩ a = false := by simp [samQ, Qy.op, h2]
    have HF := Lib.hid hf
    clear hf
    go_enter Tryz.func23, Tryz.ntmps23
    go_wp2_with fail
    go_ret
    exact ⟨by rw [HF.out]; rfl, B0⟩
  have hb2 : (o != o2) = false := by simpa using h2
  have H2 := Lib.hid h2
  clear h2
  by_cases h3 : n = n2
  case neg =>
    have hb3 : (n != n2) = true := by simpa using h3
    have hf : samQ ⟨o, n, s, l⟩ ⟨o2, n2, s2, l2⟩ a = false := by simp [samQ, Qy.n, h3]
    have HF := Lib.hid hf
    clear hf
    go_enter Tryz.func23, Tryz.ntmps23
    go_wp2_with fail
    go_ret
    exact ⟨by rw [HF.out]; rfl, B0⟩
  have hb3 : (n != n2) = false := by simpa using h3
  have H3 := Lib.hid h3
  clear h3
  by_cases h4 : s = s2
  case neg =>
    have hb4 : (s == s2) = false := by simpa using h4
    have hf : samQ ⟨o, n, s, l⟩ ⟨o2, n2, s2, l2⟩ a = false := by simp [samQ, Qy.s, h4]
    have HF := Lib.hid hf
    clear hf
    go_enter Tryz.func23, Tryz.ntmps23
    go_wp2_with fail
    go_ret
    exact ⟨by rw [HF.out]; rfl, B0⟩
  have hb4 : (s == s2) = true := by simpa using h4
  have H4 := Lib.hid h4
  clear h4
  by_cases h5 : l.length = l2.length
  case neg =>
    have hb5 : ((l.length : Int) != (l2.length : Int)) = true := by simp; omega
    have hf : samQ ⟨o, n, s, l⟩ ⟨o2, n2, s2, l2⟩ a = false := by simp [samQ, Qy.kids, h5]
    have HF := Lib.hid hf
    clear hf
    go_enter Tryz.func23, Tryz.ntmps23
    go_wp2_with fail
    go_ret
    exact ⟨by rw [HF.out]; rfl, B0⟩
  have hf : samQ ⟨o, n, s, l⟩ ⟨o2, n2, s2, l2⟩ a = samL l l2 (a + 1) := by
    simp only [samQ, Qy.op, Qy.n, Qy.s, Qy.kids, H2.out, H3.out, H4.out, beq_self_eq_true, Bool.and_true]
    rw [show decide (64 < a) = false by simpa using h1, h5]
    simp
  have HF := Lib.hid hf
  have hb5 : ((l.length : Int) != (l2.length : Int)) = false := by simp; omega
  have H5 := Lib.hid h5
  have ha64 : (a : Int) ≤ 64 := by omega
  have kw : IntKind.i64.wrap ((a : Int) + 1) = (a : Int) + 1 := IntWalk.i64_in _ (by omega)
  rw [← h5] at hb5 hc12 hk2 X0 Y0 B0 ⊢
  clear hf h1 h5
  go_enter Tryz.func23, Tryz.ntmps23
  go_wp2_with fail
  go_loopw [7] (fun i wr => ∃ k : Nat, k ≤ l.length ∧ i = .int .i64 k ∧ Hid (samL (l.take k) (l2.take k) (a + 1) = true) ∧ Blk wr w.heap.size 25 (qV o n s A l.length c) ∧ Blk wr (w.heap.size + 1) 25 (qV o2 n2 s2 A2 l.length c2) ∧ Below w.heap.size w wr) (fun i _ => l.length - (intOf i).toNat)
  case atStart => exact ⟨0, Nat.zero_le _, rfl, Lib.hid (by simp [samL]), X0, Y0, B0⟩
  case round =>
    obtain ⟨k, hkl, rfl, hsofar, hx, hy, hb⟩ := hrel
    obtain ⟨-, -, -, x3⟩ := box_facts hx
    obtain ⟨-, -, -, y3⟩ := box_facts hy
    by_cases hlt : k < l.length
    · have hlt' : decide (k < l.length) = true := by simpa using hlt
      have HX := Lib.hid hx
      have HY := Lib.hid hy
      clear hx hy
      go_wp2_with fail
      refine wp_region_seq (by kernel_rfl) [(0, true), (1, true), (2, true), (3, true), (4, true), (5, true), (6, true), (7, true), (8, true), (9, true), (10, true), (11, true), (12, false), (13, true)] (by kernel_rfl) rfl (by kernel_rfl) ?_
      intro w0 hb0
      have B1 := bel_step hb hb0
      obtain ⟨q, B, c', b, off, hg, rfl, -, hbs, hq', g1, g2, g3, g4, g5, f0, f1, f2, f3⟩ := (hk.bel B1).at hlt
      obtain ⟨q2, B2, c2', b2, off2, hg2, rfl, -, hbs2, hq2', g12, g22, g32, g42, g52, f02, f12, f22, f32⟩ := (hk2.bel B1).at hlt
      have F0 := later f0
      have F1 := later f1
      have F2 := later f2
      have F3 := later f3
      have G0 := later f02
      have G1 := later f12
      have G2 := later f22
      have G3 := later f32
      have X3 := later (later x3 w0 hb0)
      have Y3 := later (later y3 w0 hb0)
      have HX0 := Lib.hid (HX.out.below hb0 HX.out.lt)
      have HY0 := Lib.hid (HY.out.below hb0 HY.out.lt)
      have hmem : q ∈ l := List.mem_of_getElem? hg.out
      have hsn : samL (l.take (k + 1)) (l2.take (k + 1)) (a + 1) = samQ q q2 (a + 1) := by
        rw [List.take_add_one, hg.out, List.take_add_one, hg2.out]
        show samL (l.take k ++ [q]) (l2.take k ++ [q2]) (a + 1) = _
        have := H5.out
        rw [samL_snoc _ _ _ _ _ (by simp; omega), hsofar.out, Bool.true_and]
      have HC := Lib.hid (HI.out q hmem q2 (a + 1) _ _ w0 S S2 (by omega) hq'.out hq2'.out)
      rw [show (((a + 1 : Nat)) : Int) = (a : Int) + 1 by omega] at HC
      have HS := Lib.hid hsn
      have HT := Lib.hid (samL_take l l2 (k + 1) (a + 1))
      clear hmem hsn hq' hq2' f0 f1 f2 f3 f02 f12 f22 f32 x3 y3
      simp only [qV] at HC
      generalize hsv : samQ q q2 (a + 1) = sv at *
      have HSV := Lib.hid hsv
      clear hsv
      iterate 12 (refine wpSeq_take (o := ⟨_, _, _, _, _, _⟩) (v := ?_) rfl rfl ?_ ?_; rotate_left; (focus (intro W hW; go_simp; first | done | with_reducible rfl)); simp only [Act.put, List.setIfInBounds_toArray, List.set_cons_zero, List.set_cons_succ])
      refine wpSeq_exec (o := ⟨_, _, _, _, _, _⟩) rfl rfl (fun K hK => ?_)
      go_simp
      (with_reducible refine (HC.out).mono ?_)
      rintro e w2 ⟨rfl, hb2⟩
      go_wp2_with fail
      refine hK _ _ hb2 ?_
      clear hK K
      iterate 1 (refine wpSeq_take (o := ⟨_, _, _, _, _, _⟩) (v := ?_) rfl rfl ?_ ?_; rotate_left; (focus (intro W hW; go_simp; first | done | with_reducible rfl)); simp only [Act.put, List.setIfInBounds_toArray, List.set_cons_zero, List.set_cons_succ])
      refine wpSeq_nil ?_
      have B3 := bel_step B1 hb2
      have HX2 := HX0.out.below hb2 HX0.out.lt
      have HY2 := HY0.out.below hb2 HY0.out.lt
      cases sv with
      | true =>
        go_wp2_with fail
        go_roundw
        case rel => exact ⟨k + 1, by omega, by go_num, Lib.hid HS.out, HX2, HY2, B3⟩
        case measure => simp [intOf]; omega
      | false =>
        go_wp2_with fail
        go_ret
        exact ⟨by rw [HF.out, HT.out HS.out]; rfl, B3⟩
    · obtain rfl : k = l.length := by omega
      have hfin : samL l l2 (a + 1) = true := by
        have := hsofar.out
        have e2 : l2.take l.length = l2 := List.take_of_length_le (by have := H5.out; omega)
        rw [List.take_length, e2] at this
        exact this
      have HFI := Lib.hid hfin
      have HX := Lib.hid hx
      have HY := Lib.hid hy
      clear hx hy hsofar hfin
      go_wp2_with fail
      go_ret
      exact ⟨by rw [HF.out, HFI.out]; rfl, hb⟩
theorem refSame_any25 (q q2 : Qy) (vs v2 : Array Value) (w : World) (S S2 : Nat → Prop) (hq : QAt w S vs q) (hq2 : QAt w S2 v2 q2) : Calls Tryz.prog 11 #[.agg vs, .agg v2] w fun e w' => e = .returned (.bool (samQ q q2 1)) ∧ Below w.heap.size w w' := by
  have B0 := bel_alloc (bel_alloc (Below.refl w.heap.size w) (.cells vs 25)) (.cells v2 25)
  have HC := Lib.hid (show Calls Tryz.prog 23 #[.agg vs, .agg v2, .int .i64 1] _ _ from refSame25_any q q2 1 vs v2 _ S S2 (by omega) (hq.bel B0) (hq2.bel B0))
  obtain ⟨A, c, rfl, ho, hn, hs, hc1, hc2, hk⟩ := hq.open_
  obtain ⟨A2, c2, rfl, ho2, hn2, hs2, hc12, hc22, hk2⟩ := hq2.open_
  simp only [qV] at *
  clear hq hq2
  go_enter Tryz.func11, Tryz.ntmps11
  go_wp2_with fail
  (with_reducible refine (HC.out).mono ?_)
  rintro e w2 ⟨rfl, hb2⟩
  go_wp2_with fail
  go_ret
  exact ⟨rfl, bel_step B0 hb2⟩
end Go.Proofs.YtjjlmkleidbmhaaGreatDoor
end
