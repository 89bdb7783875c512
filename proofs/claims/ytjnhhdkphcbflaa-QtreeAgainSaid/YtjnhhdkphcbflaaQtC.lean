/-
  What is left behind a query; sameness.
-/
import Derived.Test.YtjnhhdkphcbflaaQtB
namespace Go.Proofs.Ytjnhhdkphcbflaa
open Go.RowKit Go.Nst
set_option maxRecDepth 100000
set_option linter.unusedVariables false
set_option linter.unusedSimpArgs false

def leftP (q : Qy) : Prop := ∀ (d : Nat) (m : Int) (vs : Array Value) (w : World) (S : Nat → Prop), d ≤ 70 → 0 ≤ m → m ≤ 300 → QAt w S vs q → Calls Try.prog 21 #[.agg vs, .int .i64 (d : Int), .int .i64 m] w fun e w' => e = .returned (.int .i64 (leftQ q d m)) ∧ Below w.heap.size w w'
theorem leftL_snoc : ∀ (l : List Qy) (k : Qy) (d : Nat) (m : Int), 0 < leftL l d m → d < 70 → leftL (l ++ [k]) d m = leftQ k (d + 1) (leftL l d m)
  | [], k, d, m, h, hd => by
    have h' : 0 < m := by simpa [leftL] using h
    simp [leftL, h', hd]
  | x :: xs, k, d, m, h, hd => by
    rcases Classical.em (0 < m ∧ d < 70) with h2 | h2
    · have e1 : leftL (x :: xs) d m = leftL xs d (leftQ x (d + 1) m) := by simp [leftL, h2]
      have e2 : leftL (x :: xs ++ [k]) d m = leftL (xs ++ [k]) d (leftQ x (d + 1) m) := by simp [leftL, h2]
      rw [e1] at h ⊢
      rw [e2]
      exact leftL_snoc xs k d _ h hd
    · have e1 : leftL (x :: xs) d m = m := leftL_stop _ _ _ h2
      rw [e1] at h
      exact absurd ⟨h, hd⟩ h2
theorem leftL_stays : ∀ (l : List Qy) (k : Nat) (d : Nat) (m : Int), ¬ (0 < leftL (l.take k) d m ∧ d < 70) → leftL l d m = leftL (l.take k) d m
  | [], k, d, m, _ => by simp
  | x :: xs, 0, d, m, h => by
    simp only [List.take_zero, leftL] at h ⊢
    rw [if_neg h]
  | x :: xs, k + 1, d, m, h => by
    simp only [List.take_succ_cons, leftL] at h ⊢
    by_cases h2 : 0 < m ∧ d < 70
    · rw [if_pos h2] at h ⊢; rw [if_pos h2]; exact leftL_stays xs k d _ h
    · rw [if_neg h2, if_neg h2]
theorem leftL_mono (l : List Qy) : ∀ (d : Nat) (m : Int), leftL l d m ≤ m := by
  induction l with
  | nil => intro d m; simp [leftL]
  | cons x xs ih =>
    intro d m
    simp only [leftL]
    split
    · have h1 := ih d (leftQ x (d + 1) m)
      have h2 := left_mono x (d + 1) m
      omega
    · omega
set_option maxHeartbeats 2000000 in
theorem left25_any (q : Qy) : leftP q := by
  refine Qy.ind (p := leftP) ?_ q
  intro o n s l ih d m vs w S hd hm0 hm1 hq
  obtain ⟨A, c, rfl, ho, hn, hs, hc1, hc2, hk⟩ := hq.open_
  simp only [Qy.op, Qy.n, Qy.s, Qy.kids, qV] at *
  have B0 := bel_alloc (Below.refl w.heap.size w) (.cells #[.int .i64 o, .int .i64 n, .string ⟨s.toArray⟩, .slice A l.length c] 24)
  have X0 := Blk.new w 24 (qV o n s A l.length c)
  have hl : leftQ ⟨o, n, s, l⟩ d m = leftL l d (m - 1 - (s.length : Int) / 20) := by simp only [leftQ]
  have HD := Lib.hid hl
  have HI := Lib.hid ih
  clear ih hq hl
  have hs20 : 0 ≤ (s.length : Int) / 20 := by omega
  have hs21 : (s.length : Int) / 20 ≤ 500000000000000000 := by omega
  go_enter Try.func21, Try.ntmps21
  go_wp2_with fail
  have hmm : m - 1 - (s.length : Int) / 20 ≤ 299 := by omega
  have hmm0 : -600000000000000000 ≤ m - 1 - (s.length : Int) / 20 := by omega
  generalize m - 1 - (s.length : Int) / 20 = m0 at *
  go_loopw [2, 7] (fun m i wr => ∃ k : Nat, k ≤ l.length ∧ i = .int .i64 k ∧ m = .int .i64 (leftL (l.take k) d m0) ∧ Blk wr w.heap.size 24 (qV o n s A l.length c) ∧ Below w.heap.size w wr) (fun _ i _ => l.length - (intOf i).toNat)
  case atStart => exact ⟨0, Nat.zero_le _, rfl, rfl, X0, B0⟩
  case round =>
    obtain ⟨k, hkl, rfl, rfl, hx, hb⟩ := hrel
    have hkw := hk.bel hb
    obtain ⟨-, -, -, x3⟩ := box_facts hx
    by_cases hlt : k < l.length
    · by_cases hgo : 0 < leftL (l.take k) d m0 ∧ d < 70
      · obtain ⟨q, B, c', b, off, hg, rfl, -, hbs, hq', g1, g2, g3, g4, g5, f0, f1, f2, f3⟩ := hkw.at hlt
        have hmem : q ∈ l := List.mem_of_getElem? hg.out
        have hsn : l.take (k + 1) = l.take k ++ [q] := by rw [List.take_add_one, hg.out]; rfl
        have hd2 : leftL (l.take (k + 1)) d m0 = leftQ q (d + 1) (leftL (l.take k) d m0) := by rw [hsn, leftL_snoc _ _ _ _ hgo.1 hgo.2]
        have hm3 := leftL_mono (l.take k) d m0
        have HC := Lib.hid (HI.out q hmem (d + 1) (leftL (l.take k) d m0) _ _ S (by omega) (by omega) (by omega) hq'.out)
        rw [show (((d + 1 : Nat)) : Int) = (d : Int) + 1 by omega] at HC
        have HD2 := Lib.hid hd2
        obtain ⟨hg1, hg2⟩ := hgo
        clear hd2 hmem hsn hq'
        simp only [qV] at HC
        have hlt' : decide (k < l.length) = true := by simpa using hlt
        have hp : decide (0 < leftL (l.take k) d m0) = true := by simpa using hg1
        have hd7 : decide ((d : Int) < 70) = true := by simp; omega
        generalize leftL (l.take k) d m0 = m at *
        have HX := Lib.hid hx
        clear hx
        go_wp2_with fail
        (with_reducible refine (HC.out).mono ?_)
        rintro e w2 ⟨rfl, hb2⟩
        have B2 := bel_step hb hb2
        have hx2 := HX.out.below hb2 HX.out.lt
        go_wp2_with fail
        go_roundw
        case rel => exact ⟨k + 1, by omega, by go_num, by rw [HD2.out], hx2, B2⟩
        case measure => simp [intOf]; omega
      · have hst := leftL_stays l k d m0 hgo
        have HST := Lib.hid hst
        have hlt' : decide (k < l.length) = true := by simpa using hlt
        have HX := Lib.hid hx
        clear hst hx
        by_cases hp : 0 < leftL (l.take k) d m0
        · have hp' : decide (0 < leftL (l.take k) d m0) = true := by simpa using hp
          have hd7 : decide ((d : Int) < 70) = false := by simp; omega
          generalize leftL (l.take k) d m0 = m at *
          go_wp2_with fail
          go_ret
          exact ⟨by rw [HD.out, HST.out]; rfl, hb⟩
        · have hp' : decide (0 < leftL (l.take k) d m0) = false := by simpa using hp
          generalize leftL (l.take k) d m0 = m at *
          go_wp2_with fail
          go_ret
          exact ⟨by rw [HD.out, HST.out]; rfl, hb⟩
    · obtain rfl : k = l.length := by omega
      have HX := Lib.hid hx
      clear hx
      go_wp2_with fail
      go_ret
      exact ⟨by rw [HD.out, List.take_length]; rfl, hb⟩
theorem Large25_any (q : Qy) (vs : Array Value) (w : World) (S : Nat → Prop) (hq : QAt w S vs q) : Calls Try.prog 7 #[.agg vs] w fun e w' => e = .returned (.bool (decide (leftQ q 0 300 ≤ 0))) ∧ Below w.heap.size w w' := by
  have B0 := bel_alloc (Below.refl w.heap.size w) (.cells vs 24)
  have HC := Lib.hid (show Calls Try.prog 21 #[.agg vs, .int .i64 0, .int .i64 300] _ _ from left25_any q 0 300 vs _ S (by omega) (by omega) (by omega) (hq.bel B0))
  obtain ⟨A, c, rfl, ho, hn, hs, hc1, hc2, hk⟩ := hq.open_
  simp only [qV] at *
  go_enter Try.func7, Try.ntmps7
  go_wp2_with fail
  (with_reducible refine (HC.out).mono ?_)
  rintro e w2 ⟨rfl, hb2⟩
  go_wp2_with fail
  go_ret
  exact ⟨rfl, bel_step B0 hb2⟩
def sameP (f : FuncId) (q : Qy) : Prop := ∀ (q2 : Qy) (a : Nat) (vs v2 : Array Value) (w : World) (S S2 : Nat → Prop), a ≤ 65 → QAt w S vs q → QAt w S2 v2 q2 → Calls Try.prog f #[.agg vs, .agg v2, .int .i64 (a : Int)] w fun e w' => e = .returned (.bool (samQ q q2 a)) ∧ Below w.heap.size w w'
theorem same1_any (q : Qy) (h : sameP 28 q) (q2 : Qy) (a g : Nat) (vs v2 : Array Value) (w : World) (S S2 : Nat → Prop) (ha : a ≤ 64) (hq : QAt w S vs q) (hq2 : QAt w S2 v2 q2) (hg : Blk w g 3 #[.int .i64 (a : Int)]) :
    Calls Try.prog 40 #[.agg vs, .agg v2, .pointer (some ⟨g, 0, none⟩)] w fun e w' => e = .returned (.bool (samQ q q2 (a + 1))) ∧ Below w.heap.size w w' := by
  have B0 := bel_alloc (bel_alloc (Below.refl w.heap.size w) (.cells vs 24)) (.cells v2 24)
  have HC := Lib.hid (h q2 (a + 1) vs v2 _ S S2 (by omega) (hq.bel B0) (hq2.bel B0))
  rw [show (((a + 1 : Nat)) : Int) = (a : Int) + 1 by omega] at HC
  have hlt := hg.lt
  have hc := hg.cell 0
  obtain ⟨A, c, rfl, ho, hn, hs, hc1, hc2, hk⟩ := hq.open_
  obtain ⟨A2, c2, rfl, ho2, hn2, hs2, hc12, hc22, hk2⟩ := hq2.open_
  simp only [qV] at *
  simp at hc
  have HG := Lib.hid hg
  clear h hg hq hq2
  go_enter Try.func40, Try.ntmps40
  go_wp2_with fail
  (with_reducible refine (HC.out).mono ?_)
  rintro e w2 ⟨rfl, hb2⟩
  go_wp2_with fail
  go_ret
  exact ⟨rfl, bel_step B0 hb2⟩
theorem samL_snoc : ∀ (l l' : List Qy) (x y : Qy) (a : Nat), l.length = l'.length → samL (l ++ [x]) (l' ++ [y]) a = (samL l l' a && samQ x y a)
  | [], [], x, y, a, _ => by simp [samL]
  | z :: zs, u :: us, x, y, a, h => by
    simp only [List.cons_append, samL, samL_snoc zs us x y a (by simpa using h), Bool.and_assoc]
theorem samL_take : ∀ (l l' : List Qy) (k a : Nat), samL (l.take k) (l'.take k) a = false → samL l l' a = false
  | [], l', k, a, h => by simp [samL] at h
  | x :: xs, [], k, a, h => by cases k <;> simp [samL] at h
  | x :: xs, y :: ys, 0, a, h => by simp [samL] at h
  | x :: xs, y :: ys, k + 1, a, h => by
    simp only [List.take_succ_cons, samL, Bool.and_eq_false_iff] at h ⊢
    rcases h with h | h
    · exact .inl h
    · exact .inr (samL_take xs ys k a h)
set_option maxHeartbeats 2000000 in
theorem equal25_any (l : List Qy) (h : ∀ q ∈ l, sameP 28 q) (l2 : List Qy) (a g : Nat) (A A2 : Option Addr) (c c2 : Nat) (w : World) (S S2 : Nat → Prop) (ha : a ≤ 64) (hc : l.length ≤ c ∧ c ≤ 9223372036854775807) (hc2 : l2.length ≤ c2 ∧ c2 ≤ 9223372036854775807) (hk : QsAt w S A l.length l) (hk2 : QsAt w S2 A2 l2.length l2) (hg : Blk w g 3 #[.int .i64 (a : Int)]) :
    Calls Try.prog 39 #[.slice A l.length c, .slice A2 l2.length c2, .func (.func 40) #[] #[.pointer (some ⟨g, 0, none⟩)]] w fun e w' => e = .returned (.bool (decide (l.length = l2.length) && samL l l2 (a + 1))) ∧ Below w.heap.size w w' := by
  have HI := Lib.hid h
  clear h
  by_cases hlen : l.length = l2.length
  · have hd : decide (l.length = l2.length) = true := by simpa using hlen
    have HB := Lib.hid hlen
    have hb : ((l.length : Int) != (l2.length : Int)) = false := by simp [hlen]
    have hlen' : (l2.length : Int) = l.length := by omega
    rw [hlen'] at hb
    rw [← hlen] at hc2 hk2 ⊢
    clear hlen hlen' hd
    have HG := Lib.hid hg
    have hglt := hg.lt
    clear hg
    go_enter Try.func39, Try.ntmps39
    go_wp2_with fail
    go_loopw [17] (fun i wr => ∃ k : Nat, k ≤ l.length ∧ i = .int .i64 k ∧ Hid (samL (l.take k) (l2.take k) (a + 1) = true) ∧ Below w.heap.size w wr) (fun i _ => l.length - (intOf i).toNat)
    case atStart => exact ⟨0, Nat.zero_le _, rfl, Lib.hid (by simp [samL]), Below.refl _ _⟩
    case round =>
      obtain ⟨k, hkl, rfl, hsofar, hb⟩ := hrel
      have hkw := hk.bel hb
      have hkw2 := hk2.bel hb
      by_cases hlt : k < l.length
      · obtain ⟨q, B, c', b, off, hg, rfl, -, hbs, hq', g1, g2, g3, g4, g5, f0, f1, f2, f3⟩ := hkw.at hlt
        obtain ⟨q2, B2, c2', b2, off2, hg2, rfl, -, hbs2, hq2', g12, g22, g32, g42, g52, f02, f12, f22, f32⟩ := hkw2.at hlt
        have hmem : q ∈ l := List.mem_of_getElem? hg.out
        have hsn : samL (l.take (k + 1)) (l2.take (k + 1)) (a + 1) = samQ q q2 (a + 1) := by
          rw [List.take_add_one, hg.out, List.take_add_one, hg2.out]
          show samL (l.take k ++ [q]) (l2.take k ++ [q2]) (a + 1) = _
          have := HB.out
          rw [samL_snoc _ _ _ _ _ (by simp; omega), hsofar.out, Bool.true_and]
        have hlt' : decide (k < l.length) = true := by simpa using hlt
        have E1 := bel_alloc (bel_alloc (Below.refl wr.heap.size wr) (.cells (qV q.op q.n q.s B q.kids.length c') 24)) (.cells (qV q2.op q2.n q2.s B2 q2.kids.length c2') 24)
        have E2 := bel_step hb E1
        have HGw := Lib.hid ((HG.out.below hb hglt).below E1 (by have := hb.size; omega))
        have HC := Lib.hid (same1_any q (HI.out q hmem) q2 a g _ _ _ S S2 ha (hq'.out.bel E1) (hq2'.out.bel E1) HGw.out)
        have HS := Lib.hid hsn
        have HT := Lib.hid (samL_take l l2 (k + 1) (a + 1))
        clear hmem hsn hq' hq2' hkw hkw2
        simp only [qV] at HC E1 E2
        generalize hsv : samQ q q2 (a + 1) = sv at *
        have HSV := Lib.hid hsv
        clear hsv
        go_wp2_with fail
        (with_reducible refine (HC.out).mono ?_)
        rintro e w2 ⟨rfl, hb2⟩
        have B3 := bel_step E2 hb2
        cases sv with
        | true =>
          go_wp2_with fail
          go_roundw
          case rel => exact ⟨k + 1, by omega, by go_num, Lib.hid HS.out, B3⟩
          case measure => simp [intOf]; omega
        | false =>
          go_wp2_with fail
          go_ret
          exact ⟨by rw [HT.out HS.out]; rfl, B3⟩
      · obtain rfl : k = l.length := by omega
        have hlt' : decide (l.length < l.length) = false := by simp
        have hfin : samL l l2 (a + 1) = true := by
          have := hsofar.out
          have e2 : l2.take l.length = l2 := List.take_of_length_le (by have := HB.out; omega)
          rw [List.take_length, e2] at this
          exact this
        have HF := Lib.hid hfin
        clear hsofar hfin hkw hkw2
        go_wp2_with fail
        go_ret
        exact ⟨by rw [HF.out]; simp, hb⟩
  · have hb : ((l.length : Int) != (l2.length : Int)) = true := by simp; omega
    have hd : decide (l.length = l2.length) = false := by simpa using hlen
    rw [hd]
    clear hk hk2 hg hd
    go_enter Try.func39, Try.ntmps39
    go_wp2_with fail
    go_ret
    exact ⟨by simp, Below.refl _ _⟩
end Go.Proofs.Ytjnhhdkphcbflaa
