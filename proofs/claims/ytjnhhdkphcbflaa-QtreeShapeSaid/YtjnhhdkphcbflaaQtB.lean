/-
  Depth, nodes.
-/
import Derived.Test.YtjnhhdkphcbflaaQtA
namespace Go.Proofs.Ytjnhhdkphcbflaa
open Go.RowKit Go.Nst
set_option maxRecDepth 100000
set_option linter.unusedVariables false
set_option linter.unusedSimpArgs false

set_option maxHeartbeats 1000000 in
theorem depth_any (q : Qy) : ∀ (a : Nat) (vs : Array Value) (w : World) (S : Nat → Prop), a ≤ 65 → QAt w S vs q → Calls Try.prog 26 #[.agg vs, .int .i64 (a : Int)] w fun e w' => e = .returned (.int .i64 (depQ q a : Int)) ∧ Below w.heap.size w w' := by
  refine Qy.ind (p := fun q => ∀ (a : Nat) (vs : Array Value) (w : World) (S : Nat → Prop), a ≤ 65 → QAt w S vs q → Calls Try.prog 26 #[.agg vs, .int .i64 (a : Int)] w fun e w' => e = .returned (.int .i64 (depQ q a : Int)) ∧ Below w.heap.size w w') ?_ q
  intro o n s l ih a vs w S ha hq
  obtain ⟨A, c, rfl, ho, hn, hs, hc1, hc2, hk⟩ := hq.open_
  simp only [Qy.op, Qy.n, Qy.s, Qy.kids, qV] at *
  have B0 := bel_alloc (Below.refl w.heap.size w) (.cells #[.int .i64 o, .int .i64 n, .string ⟨s.toArray⟩, .slice A l.length c] 24)
  by_cases h64 : 64 < a
  · have hd : depQ ⟨o, n, s, l⟩ a = a := by simp only [depQ]; rw [if_pos h64]
    have HD := Lib.hid hd
    have h64' : (64 : Int) < a := by omega
    clear hd ih
    have h64b : decide (64 < (a : Int)) = true := by simpa using h64'
    go_enter Try.func26, Try.ntmps26
    go_wp2_with fail
    go_ret
    exact ⟨by rw [HD.out]; rfl, B0⟩
  · have hd : depQ ⟨o, n, s, l⟩ a = depL l a a := by simp only [depQ]; rw [if_neg h64]
    have HD := Lib.hid hd
    have h64' : (a : Int) ≤ 64 := by omega
    have h64b : decide (64 < (a : Int)) = false := by simpa using h64'
    clear hd
    have HI := Lib.hid ih
    clear ih hq
    go_enter Try.func26, Try.ntmps26
    go_wp2_with fail
    go_loopw [5, 15] (fun m i wr => ∃ k : Nat, k ≤ l.length ∧ i = .int .i64 k ∧ m = .int .i64 (depL (l.take k) a a : Int) ∧ Below w.heap.size w wr) (fun _ i _ => l.length - (intOf i).toNat)
    case atStart => exact ⟨0, Nat.zero_le _, rfl, rfl, B0⟩
    case round =>
      obtain ⟨k, hkl, rfl, rfl, hb⟩ := hrel
      have hkw := hk.bel hb
      by_cases hlt : k < l.length
      · obtain ⟨q, B, c', b, off, hg, rfl, -, hbs, hq', g1, g2, g3, g4, g5, f0, f1, f2, f3⟩ := hkw.at hlt
        have hmem : q ∈ l := List.mem_of_getElem? hg.out
        have hsn : l.take (k + 1) = l.take k ++ [q] := by rw [List.take_add_one, hg.out]; rfl
        have hd2 : depL (l.take (k + 1)) a a = max (depL (l.take k) a a) (depQ q (a + 1)) := by rw [hsn, depL_snoc]
        have hm1 := depL_65 (l.take k) a a (by omega) (by omega)
        have hm2 := depQ_65 q (a + 1) (by omega)
        have HD2 := Lib.hid hd2
        have HM := Lib.hid hmem
        have hqb := hq'.out.bel (bel_alloc (Below.refl wr.heap.size wr) (.cells (qV q.op q.n q.s B q.kids.length c') 24))
        have hca := HI.out q HM.out (a + 1) _ _ S (by omega) hqb
        have HC := Lib.hid hca
        have ecast : (((a + 1 : Nat)) : Int) = (a : Int) + 1 := by omega
        rw [ecast] at HC
        clear hd2 hmem hsn hqb hca ecast hq'
        simp only [qV] at HC
        generalize depL (l.take k) a a = m at *
        generalize depQ q (a + 1) = d at *
        go_wp2_with fail
        (with_reducible refine (HC.out).mono ?_)
        rintro e w2 ⟨rfl, hb2⟩
        have B2 := bel_step (bel_alloc hb (.cells #[.int .i64 q.op, .int .i64 q.n, .string ⟨q.s.toArray⟩, .slice B q.kids.length c'] 24)) hb2
        go_wp2_with fail
        go_roundw
        case rel => exact ⟨k + 1, by omega, by go_num, by rw [HD2.out]; congr 1; (repeat' split) <;> omega, B2⟩
        case measure => simp [intOf]; omega
      · obtain rfl : k = l.length := by omega
        go_wp2_with fail
        go_ret
        exact ⟨by rw [HD.out, List.take_length]; rfl, hb⟩

/-- a query that was boxed at block g -/
theorem box_facts {w : World} {g : Nat} {o n : Int} {s : List UInt8} {A : Option Addr} {k c : Nat} (h : Blk w g 24 (qV o n s A k c)) : w.cell? ⟨g, 0, none⟩ = some (.int .i64 o) ∧ w.cell? ⟨g, 1, none⟩ = some (.int .i64 n) ∧ w.cell? ⟨g, 2, none⟩ = some (.string ⟨s.toArray⟩) ∧ w.cell? ⟨g, 3, none⟩ = some (.slice A k c) := ⟨h.cell 0, h.cell 1, h.cell 2, h.cell 3⟩
def depthP (f : FuncId) (q : Qy) : Prop := ∀ (a : Nat) (vs : Array Value) (w : World) (S : Nat → Prop), a ≤ 65 → QAt w S vs q → Calls Try.prog f #[.agg vs, .int .i64 (a : Int)] w fun e w' => e = .returned (.int .i64 (depQ q a : Int)) ∧ Below w.heap.size w w'
set_option maxHeartbeats 1000000 in
theorem refDepth25_any (q : Qy) : depthP 27 q := by
  refine Qy.ind (p := depthP 27) ?_ q
  intro o n s l ih a vs w S ha hq
  obtain ⟨A, c, rfl, ho, hn, hs, hc1, hc2, hk⟩ := hq.open_
  simp only [Qy.op, Qy.n, Qy.s, Qy.kids, qV] at *
  have B0 := bel_alloc (Below.refl w.heap.size w) (.cells #[.int .i64 o, .int .i64 n, .string ⟨s.toArray⟩, .slice A l.length c] 24)
  have X0 := Blk.new w 24 (qV o n s A l.length c)
  by_cases h64 : 64 < a
  · have hd : depQ ⟨o, n, s, l⟩ a = a := by simp only [depQ]; rw [if_pos h64]
    have HD := Lib.hid hd
    have h64b : decide (64 < (a : Int)) = true := by simp; omega
    clear hd ih
    go_enter Try.func27, Try.ntmps27
    go_wp2_with fail
    go_ret
    exact ⟨by rw [HD.out]; rfl, B0⟩
  · have hd : depQ ⟨o, n, s, l⟩ a = depL l a a := by simp only [depQ]; rw [if_neg h64]
    have HD := Lib.hid hd
    have h64' : (a : Int) ≤ 64 := by omega
    have h64b : decide (64 < (a : Int)) = false := by simpa using h64'
    clear hd
    have HI := Lib.hid ih
    clear ih hq
    go_enter Try.func27, Try.ntmps27
    go_wp2_with fail
    go_loopw [5, 6] (fun m i wr => ∃ k : Nat, k ≤ l.length ∧ i = .int .i64 k ∧ m = .int .i64 (depL (l.take k) a a : Int) ∧ Blk wr w.heap.size 24 (qV o n s A l.length c) ∧ Below w.heap.size w wr) (fun _ i _ => l.length - (intOf i).toNat)
    case atStart => exact ⟨0, Nat.zero_le _, rfl, rfl, X0, B0⟩
    case round =>
      obtain ⟨k, hkl, rfl, rfl, hx, hb⟩ := hrel
      have hkw := hk.bel hb
      obtain ⟨-, -, -, x3⟩ := box_facts hx
      by_cases hlt : k < l.length
      · obtain ⟨q, B, c', b, off, hg, rfl, -, hbs, hq', g1, g2, g3, g4, g5, f0, f1, f2, f3⟩ := hkw.at hlt
        have hmem : q ∈ l := List.mem_of_getElem? hg.out
        have hsn : l.take (k + 1) = l.take k ++ [q] := by rw [List.take_add_one, hg.out]; rfl
        have hd2 : depL (l.take (k + 1)) a a = max (depL (l.take k) a a) (depQ q (a + 1)) := by rw [hsn, depL_snoc]
        have hm1 := depL_65 (l.take k) a a (by omega) (by omega)
        have hm2 := depQ_65 q (a + 1) (by omega)
        have HD2 := Lib.hid hd2
        have HM := Lib.hid hmem
        have HC := Lib.hid (HI.out q HM.out (a + 1) _ _ S (by omega) hq'.out)
        rw [show (((a + 1 : Nat)) : Int) = (a : Int) + 1 by omega] at HC
        clear hd2 hmem hsn hq'
        simp only [qV] at HC
        generalize depL (l.take k) a a = m at *
        generalize depQ q (a + 1) = d at *
        have HX := Lib.hid hx
        clear hx
        go_wp2_with fail
        (with_reducible refine (HC.out).mono ?_)
        rintro e w2 ⟨rfl, hb2⟩
        have B2 := bel_step hb hb2
        have hx2 := HX.out.below hb2 HX.out.lt
        by_cases hmd : m < d
        · have hmdb : decide ((m : Int) < (d : Int)) = true := by simp; omega
          have hmdb2 : decide (m < d) = true := by simpa using hmd
          go_wp2_with fail
          go_roundw
          case rel => exact ⟨k + 1, by omega, by go_num, by rw [HD2.out]; congr 1; omega, hx2, B2⟩
          case measure => simp [intOf]; omega
        · have hmdb : decide ((m : Int) < (d : Int)) = false := by simp; omega
          have hmdb2 : decide (m < d) = false := by simpa using hmd
          go_wp2_with fail
          go_roundw
          case rel => exact ⟨k + 1, by omega, by go_num, by rw [HD2.out]; congr 1; omega, hx2, B2⟩
          case measure => simp [intOf]; omega
      · obtain rfl : k = l.length := by omega
        have HX := Lib.hid hx
        clear hx
        go_wp2_with fail
        go_ret
        exact ⟨by rw [HD.out, List.take_length]; rfl, hb⟩
def intP (f : FuncId) (P : Qy → Prop) (F : Qy → Int) (q : Qy) : Prop := ∀ (vs : Array Value) (w : World) (S : Nat → Prop), P q → QAt w S vs q → Calls Try.prog f #[.agg vs] w fun e w' => e = .returned (.int .i64 (F q)) ∧ Below w.heap.size w w'
theorem Depth25_any (q : Qy) : intP 11 (fun _ => True) (fun q => (depQ q 1 : Int)) q := by
  intro vs w S _ hq
  have B0 := bel_alloc (Below.refl w.heap.size w) (.cells vs 24)
  have HC := Lib.hid (show Calls Try.prog 26 #[.agg vs, .int .i64 1] _ _ from depth_any q 1 vs _ S (by omega) (hq.bel B0))
  obtain ⟨A, c, rfl, ho, hn, hs, hc1, hc2, hk⟩ := hq.open_
  simp only [qV] at *
  go_enter Try.func11, Try.ntmps11
  go_wp2_with fail
  (with_reducible refine (HC.out).mono ?_)
  rintro e w2 ⟨rfl, hb2⟩
  go_wp2_with fail
  go_ret
  exact ⟨rfl, bel_step B0 hb2⟩
theorem refDepth_any25 (q : Qy) : intP 12 (fun _ => True) (fun q => (depQ q 1 : Int)) q := by
  intro vs w S _ hq
  have B0 := bel_alloc (Below.refl w.heap.size w) (.cells vs 24)
  have HC := Lib.hid (show Calls Try.prog 27 #[.agg vs, .int .i64 1] _ _ from refDepth25_any q 1 vs _ S (by omega) (hq.bel B0))
  obtain ⟨A, c, rfl, ho, hn, hs, hc1, hc2, hk⟩ := hq.open_
  simp only [qV] at *
  go_enter Try.func12, Try.ntmps12
  go_wp2_with fail
  (with_reducible refine (HC.out).mono ?_)
  rintro e w2 ⟨rfl, hb2⟩
  go_wp2_with fail
  go_ret
  exact ⟨rfl, bel_step B0 hb2⟩
def nodK (q : Qy) : Prop := nodQ q ≤ 1000000000000
set_option maxHeartbeats 1000000 in
theorem nodes25_any (q : Qy) : intP 22 nodK (fun q => (nodQ q : Int)) q := by
  refine Qy.ind (p := intP 22 nodK (fun q => (nodQ q : Int))) ?_ q
  intro o n s l ih vs w S ha hq
  unfold nodK at ha
  obtain ⟨A, c, rfl, ho, hn, hs, hc1, hc2, hk⟩ := hq.open_
  simp only [Qy.op, Qy.n, Qy.s, Qy.kids, qV] at *
  have B0 := bel_alloc (Below.refl w.heap.size w) (.cells #[.int .i64 o, .int .i64 n, .string ⟨s.toArray⟩, .slice A l.length c] 24)
  have hd : nodQ ⟨o, n, s, l⟩ = nodL l 1 := by simp only [nodQ]
  have HD := Lib.hid hd
  rw [hd] at ha
  have HI := Lib.hid ih
  have HB := Lib.hid ha
  clear ih hq hd ha
  go_enter Try.func22, Try.ntmps22
  go_wp2_with fail
  go_loopw [3, 9] (fun m i wr => ∃ k : Nat, k ≤ l.length ∧ i = .int .i64 k ∧ m = .int .i64 (nodL (l.take k) 1 : Int) ∧ Below w.heap.size w wr) (fun _ i _ => l.length - (intOf i).toNat)
  case atStart => exact ⟨0, Nat.zero_le _, rfl, rfl, B0⟩
  case round =>
    obtain ⟨k, hkl, rfl, rfl, hb⟩ := hrel
    have hkw := hk.bel hb
    by_cases hlt : k < l.length
    · obtain ⟨q, B, c', b, off, hg, rfl, -, hbs, hq', g1, g2, g3, g4, g5, f0, f1, f2, f3⟩ := hkw.at hlt
      have hmem : q ∈ l := List.mem_of_getElem? hg.out
      have hsn : l.take (k + 1) = l.take k ++ [q] := by rw [List.take_add_one, hg.out]; rfl
      have hd2 : nodL (l.take (k + 1)) 1 = nodL (l.take k) 1 + nodQ q := by rw [hsn, nodL_snoc]
      have hm1 := nodL_take l 1 (k + 1)
      have hm2 := HB.out
      have hqb := hq'.out.bel (bel_alloc (Below.refl wr.heap.size wr) (.cells (qV q.op q.n q.s B q.kids.length c') 24))
      have HC := Lib.hid (HI.out q hmem _ _ S (by unfold nodK; omega) hqb)
      have h1 : nodL (l.take k) 1 + nodQ q ≤ 1000000000000 := by omega
      have HD2 := Lib.hid hd2
      clear hd2 hmem hsn hqb hq' hm1 hm2
      simp only [qV] at HC
      generalize nodL (l.take k) 1 = m at *
      generalize nodQ q = d at *
      go_wp2_with fail
      (with_reducible refine (HC.out).mono ?_)
      rintro e w2 ⟨rfl, hb2⟩
      have B2 := bel_step (bel_alloc hb (.cells #[.int .i64 q.op, .int .i64 q.n, .string ⟨q.s.toArray⟩, .slice B q.kids.length c'] 24)) hb2
      go_wp2_with fail
      go_roundw
      case rel => exact ⟨k + 1, by omega, by go_num, by rw [HD2.out]; congr 1, B2⟩
      case measure => simp [intOf]; omega
    · obtain rfl : k = l.length := by omega
      go_wp2_with fail
      go_ret
      exact ⟨by rw [HD.out, List.take_length]; rfl, hb⟩
set_option maxHeartbeats 1000000 in
theorem refNodes25_any (q : Qy) : intP 24 nodK (fun q => (nodQ q : Int)) q := by
  refine Qy.ind (p := intP 24 nodK (fun q => (nodQ q : Int))) ?_ q
  intro o n s l ih vs w S ha hq
  unfold nodK at ha
  obtain ⟨A, c, rfl, ho, hn, hs, hc1, hc2, hk⟩ := hq.open_
  simp only [Qy.op, Qy.n, Qy.s, Qy.kids, qV] at *
  have B0 := bel_alloc (Below.refl w.heap.size w) (.cells #[.int .i64 o, .int .i64 n, .string ⟨s.toArray⟩, .slice A l.length c] 24)
  have X0 := Blk.new w 24 (qV o n s A l.length c)
  have hd : nodQ ⟨o, n, s, l⟩ = nodL l 1 := by simp only [nodQ]
  have HD := Lib.hid hd
  rw [hd] at ha
  have HI := Lib.hid ih
  have HB := Lib.hid ha
  clear ih hq hd ha
  go_enter Try.func24, Try.ntmps24
  go_wp2_with fail
  go_loopw [3, 4] (fun m i wr => ∃ k : Nat, k ≤ l.length ∧ i = .int .i64 k ∧ m = .int .i64 (nodL (l.take k) 1 : Int) ∧ Blk wr w.heap.size 24 (qV o n s A l.length c) ∧ Below w.heap.size w wr) (fun _ i _ => l.length - (intOf i).toNat)
  case atStart => exact ⟨0, Nat.zero_le _, rfl, rfl, X0, B0⟩
  case round =>
    obtain ⟨k, hkl, rfl, rfl, hx, hb⟩ := hrel
    have hkw := hk.bel hb
    obtain ⟨-, -, -, x3⟩ := box_facts hx
    by_cases hlt : k < l.length
    · obtain ⟨q, B, c', b, off, hg, rfl, -, hbs, hq', g1, g2, g3, g4, g5, f0, f1, f2, f3⟩ := hkw.at hlt
      have hmem : q ∈ l := List.mem_of_getElem? hg.out
      have hsn : l.take (k + 1) = l.take k ++ [q] := by rw [List.take_add_one, hg.out]; rfl
      have hd2 : nodL (l.take (k + 1)) 1 = nodL (l.take k) 1 + nodQ q := by rw [hsn, nodL_snoc]
      have hm1 := nodL_take l 1 (k + 1)
      have hm2 := HB.out
      have HC := Lib.hid (HI.out q hmem _ _ S (by unfold nodK; omega) hq'.out)
      have h1 : nodL (l.take k) 1 + nodQ q ≤ 1000000000000 := by omega
      have HD2 := Lib.hid hd2
      clear hd2 hmem hsn hq' hm1 hm2
      simp only [qV] at HC
      generalize nodL (l.take k) 1 = m at *
      generalize nodQ q = d at *
      have HX := Lib.hid hx
      clear hx
      go_wp2_with fail
      (with_reducible refine (HC.out).mono ?_)
      rintro e w2 ⟨rfl, hb2⟩
      have B2 := bel_step hb hb2
      have hx2 := HX.out.below hb2 HX.out.lt
      go_wp2_with fail
      go_roundw
      case rel => exact ⟨k + 1, by omega, by go_num, by rw [HD2.out]; congr 1, hx2, B2⟩
      case measure => simp [intOf]; omega
    · obtain rfl : k = l.length := by omega
      have HX := Lib.hid hx
      clear hx
      go_wp2_with fail
      go_ret
      exact ⟨by rw [HD.out, List.take_length]; rfl, hb⟩
end Go.Proofs.Ytjnhhdkphcbflaa
