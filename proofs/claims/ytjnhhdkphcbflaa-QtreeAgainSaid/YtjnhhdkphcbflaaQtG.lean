/-
  slices.IndexFunc, slices.ContainsFunc over queries, at each closure (printed by gen_qtg.py); which queries may be.
-/
import Derived.Test.YtjnhhdkphcbflaaQtF4
namespace Go.Proofs.Ytjnhhdkphcbflaa
open Go.RowKit Go.Nst
set_option maxRecDepth 100000
set_option linter.unusedVariables false
set_option linter.unusedSimpArgs false

/-- an index, or below 0: as b says -/
def IdxR (w : World) (b : Bool) (e : Ending) (w' : World) : Prop := ∃ z : Int, e = .returned (.int .i64 z) ∧ decide (0 ≤ z) = b ∧ Below w.heap.size w w'

/-- slices.IndexFunc at newsstand/qtree.plain$1 -/
theorem index_plain (p : Qy → Bool) (I : World → Prop) (hI : ∀ W W' : World, I W → Below W.heap.size W W' → I W') (l : List Qy) (H : ∀ q ∈ l, ∀ (vs : Array Value) (W : World) (S : Nat → Prop), I W → QAt W S vs q → Calls Try.prog 37 #[.agg vs] W fun e w' => e = .returned (.bool (p q)) ∧ Below W.heap.size W w')
    (A : Option Addr) (n c : Nat) (w : World) (S : Nat → Prop) (hc : n ≤ c ∧ c ≤ 9223372036854775807) (hk : QsAt w S A n l) (hw : I w) : Calls Try.prog 48 #[.slice A n c, .func (.func 37) #[] #[]] w (IdxR w (l.any p)) := by
  have HI := Lib.hid hI
  have HH := Lib.hid H
  have hln := hk.1
  have HLN := Lib.hid hln
  have hc1 := hc.1
  have hc2 := hc.2
  clear hI H hc hln
  go_enter Try.func48, Try.ntmps48
  go_wp2_with fail
  go_loopw [8] (fun i wr => ∃ k : Nat, k ≤ n ∧ i = .int .i64 k ∧ Hid ((l.take k).any p = false) ∧ Hid (I wr) ∧ Below w.heap.size w wr) (fun i _ => n - (intOf i).toNat)
  case atStart => exact ⟨0, Nat.zero_le _, rfl, Lib.hid (by simp), Lib.hid hw, Below.refl _ _⟩
  case round =>
    obtain ⟨k, hkl, rfl, hsofar, hiw, hb⟩ := hrel
    by_cases hlt : k < n
    · have hlt' : decide (k < n) = true := by simpa using hlt
      obtain ⟨q, B, c', b, off, hg, rfl, -, hbs, hq', g1, g2, g3, g4, g5, f0, f1, f2, f3⟩ := (hk.bel hb).at hlt
      have HM := Lib.hid (List.mem_of_getElem? hg.out)
      have hsn : (l.take (k + 1)).any p = p q := by
        rw [List.take_add_one, hg.out, List.any_append, hsofar.out]
        simp
      have hany : p q = true → l.any p = true := fun hp => List.any_eq_true.2 ⟨q, HM.out, hp⟩
      have HS := Lib.hid hsn
      have HA := Lib.hid hany
      have HC := Lib.hid (HH.out q HM.out _ wr S hiw.out hq'.out)
      clear hsn hq' hany
      simp only [qV] at HC
      generalize p q = pq at *
      go_wp2_with fail
      (with_reducible refine (HC.out).mono ?_)
      rintro e w2 ⟨rfl, hb2⟩
      have B3 := bel_step hb hb2
      cases pq with
      | true =>
        go_wp2_with fail
        go_ret
        exact ⟨k, rfl, by rw [HA.out (by simp)]; simp, B3⟩
      | false =>
        go_wp2_with fail
        go_roundw
        case rel => exact ⟨k + 1, by omega, by go_num, HS, Lib.hid (HI.out _ _ hiw.out hb2), B3⟩
        case measure => simp [intOf]; omega
    · obtain rfl : k = n := by omega
      have hlt' : decide (k < k) = false := by simp
      have hfin : l.any p = false := by have := hsofar.out; rwa [List.take_of_length_le (by have := HLN.out; omega)] at this
      have HF := Lib.hid hfin
      clear hfin
      go_wp2_with fail
      go_ret
      exact ⟨-1, rfl, by rw [HF.out]; rfl, hb⟩
/-- slices.ContainsFunc at newsstand/qtree.plain$1 -/
theorem contains_plain (p : Qy → Bool) (I : World → Prop) (hI : ∀ W W' : World, I W → Below W.heap.size W W' → I W') (l : List Qy) (H : ∀ q ∈ l, ∀ (vs : Array Value) (W : World) (S : Nat → Prop), I W → QAt W S vs q → Calls Try.prog 37 #[.agg vs] W fun e w' => e = .returned (.bool (p q)) ∧ Below W.heap.size W w')
    (A : Option Addr) (n c : Nat) (w : World) (S : Nat → Prop) (hc : n ≤ c ∧ c ≤ 9223372036854775807) (hk : QsAt w S A n l) (hw : I w) : Calls Try.prog 36 #[.slice A n c, .func (.func 37) #[] #[]] w fun e w' => e = .returned (.bool (l.any p)) ∧ Below w.heap.size w w' := by
  have HC := Lib.hid (index_plain p I hI l H A n c w S hc hk hw)
  clear hI H hk
  generalize l.any p = b at *
  go_enter Try.func36, Try.ntmps36
  go_wp2_with fail
  (with_reducible refine (HC.out).mono ?_)
  rintro e w2 ⟨z, rfl, hz, hb2⟩
  go_wp2_with fail
  go_ret
  exact ⟨by rw [← hz]; simp, hb2⟩

mutual
def plaQ : Qy → Bool
  | ⟨o, n, s, ks⟩ => oneQ o n s ks.length && plaL ks
def plaL : List Qy → Bool
  | [] => true
  | k :: ks => plaQ k && plaL ks
end
theorem plaL_all : ∀ l : List Qy, plaL l = l.all plaQ
  | [] => rfl
  | x :: xs => by simp only [plaL, List.all_cons, plaL_all xs]
theorem plaL_any (l : List Qy) : plaL l = !l.any fun q => !plaQ q := by
  rw [plaL_all]
  simp [List.not_any_eq_all_not]
def plainP (f : FuncId) (q : Qy) : Prop := ∀ (vs : Array Value) (w : World) (S : Nat → Prop), Sml q → QAt w S vs q → Calls Try.prog f #[.agg vs] w fun e w' => e = .returned (.bool (plaQ q)) ∧ Below w.heap.size w w'
theorem plain1_any (q : Qy) (h : plainP 23 q) (vs : Array Value) (w : World) (S : Nat → Prop) (hs : Sml q) (hq : QAt w S vs q) : Calls Try.prog 37 #[.agg vs] w fun e w' => e = .returned (.bool (!plaQ q)) ∧ Below w.heap.size w w' := by
  have B0 := bel_alloc (Below.refl w.heap.size w) (.cells vs 24)
  have HC := Lib.hid (h vs _ S hs (hq.bel B0))
  obtain ⟨A, c, rfl, -, -, -, -, -, -⟩ := hq.open_
  simp only [qV] at *
  clear h hq
  generalize plaQ q = b at *
  go_enter Try.func37, Try.ntmps37
  go_wp2_with fail
  (with_reducible refine (HC.out).mono ?_)
  rintro e w2 ⟨rfl, hb2⟩
  go_wp2_with fail
  go_ret
  exact ⟨by simp, bel_step B0 hb2⟩
set_option maxHeartbeats 2000000 in
theorem plain25_any (q : Qy) : plainP 23 q := by
  refine Qy.ind (p := plainP 23) ?_ q
  intro o n s l ih vs w S hsm hq
  obtain ⟨A, c, rfl, ho, hn, hs, hc1, hc2, hk⟩ := hq.open_
  simp only [Qy.op, Qy.n, Qy.s, Qy.kids] at *
  have hs2 := hsm.s
  have hks : ∀ k ∈ l, Sml k := fun k hk => hsm.kid hk
  have B0 := bel_alloc (Below.refl w.heap.size w) (.cells (qV o n s A l.length c) 24)
  have HX := Lib.hid (Blk.new w 24 (qV o n s A l.length c))
  have HN := Lib.hid (fun W => number25_any o n s A l.length c W)
  have HT := Lib.hid (fun W => text25_any o n s A l.length c W (by simpa [Qy.s] using hs2))
  have HK := Lib.hid (fun W => kids25_any o n s A l.length c W)
  have HCF := Lib.hid (fun W hW => contains_plain (fun q => !plaQ q) (fun _ => True) (fun _ _ _ _ => trivial) l (fun q hm vs W S _ hqq => plain1_any q (ih q hm) vs W S (hks q hm) hqq) A l.length c W S ⟨hc1, hc2⟩ hW trivial)
  have hp : plaQ ⟨o, n, s, l⟩ = (decide (1 ≤ o ∧ o ≤ 15) && numQ o n && txtQ o s && kidQ o l.length && !l.any fun q => !plaQ q) := by
    simp only [plaQ, oneQ, plaL_any]
  have HP := Lib.hid hp
  have HKK := Lib.hid hk
  clear hp ih hks hsm hs2 hq hk
  simp only [qV] at *
  generalize (l.any fun q => !plaQ q) = any at *
  by_cases h1 : 1 ≤ o ∧ o ≤ 15
  case neg =>
    have hf : plaQ ⟨o, n, s, l⟩ = false := by rw [HP.out, decide_eq_false h1]; rfl
    have HF := Lib.hid hf
    clear hf
    by_cases h2 : o < 1
    · have d1 : decide (o < 1) = true := by simpa using h2
      go_enter Try.func23, Try.ntmps23
      go_wp2_with fail
      go_ret
      exact ⟨by rw [HF.out]; rfl, B0⟩
    · have d1 : decide (o < 1) = false := by simpa using h2
      have d2 : decide (15 < o) = true := by simp; omega
      go_enter Try.func23, Try.ntmps23
      go_wp2_with fail
      go_ret
      exact ⟨by rw [HF.out]; rfl, B0⟩
  have HP2 : Hid (plaQ ⟨o, n, s, l⟩ = (numQ o n && txtQ o s && kidQ o l.length && !any)) := Lib.hid (by rw [HP.out, decide_eq_true h1, Bool.true_and])
  have d1 : decide (o < 1) = false := by simp; omega
  have d2 : decide (15 < o) = false := by simp; omega
  clear HP h1
  generalize numQ o n = b1 at *
  generalize txtQ o s = b2 at *
  generalize kidQ o l.length = b3 at *
  go_enter Try.func23, Try.ntmps23
  go_wp2_with fail
  (with_reducible refine (HN.out _).mono ?_)
  rintro e w1 ⟨rfl, hb1⟩
  have B1 := bel_step B0 hb1
  have HX1 := Lib.hid (HX.out.below hb1 HX.out.lt)
  cases b1 with
  | false =>
    go_wp2_with fail
    go_ret
    exact ⟨by rw [HP2.out]; rfl, B1⟩
  | true =>
  obtain ⟨x0, x1, x2, x3⟩ := box_facts HX1.out
  go_wp2_with fail
  (with_reducible refine (HT.out _).mono ?_)
  rintro e w2 ⟨rfl, hb2⟩
  have B2 := bel_step B1 hb2
  have HX2 := Lib.hid (HX1.out.below hb2 HX1.out.lt)
  clear x0 x1 x2 x3
  cases b2 with
  | false =>
    go_wp2_with fail
    go_ret
    exact ⟨by rw [HP2.out]; rfl, B2⟩
  | true =>
  obtain ⟨x0, x1, x2, x3⟩ := box_facts HX2.out
  go_wp2_with fail
  (with_reducible refine (HK.out _).mono ?_)
  rintro e w3 ⟨rfl, hb3⟩
  have B3 := bel_step B2 hb3
  have HX3 := Lib.hid (HX2.out.below hb3 HX2.out.lt)
  clear x0 x1 x2 x3
  cases b3 with
  | false =>
    go_wp2_with fail
    go_ret
    exact ⟨by rw [HP2.out]; rfl, B3⟩
  | true =>
  obtain ⟨x0, x1, x2, x3⟩ := box_facts HX3.out
  have HK3 := Lib.hid (HKK.out.bel B3)
  go_wp2_with fail
  (with_reducible refine (HCF.out _ HK3.out).mono ?_)
  rintro e w4 ⟨rfl, hb4⟩
  have B4 := bel_step B3 hb4
  go_wp2_with fail
  go_ret
  exact ⟨by rw [HP2.out]; rfl, B4⟩
set_option maxHeartbeats 2000000 in
theorem refAll25_any (q : Qy) : plainP 25 q := by
  refine Qy.ind (p := plainP 25) ?_ q
  intro o n s l ih vs w S hsm hq
  obtain ⟨A, c, rfl, ho, hn, hs, hc1, hc2, hk⟩ := hq.open_
  simp only [Qy.op, Qy.n, Qy.s, Qy.kids] at *
  have hs2 := hsm.s
  have hks : ∀ k ∈ l, Sml k := fun k hk => hsm.kid hk
  have B0 := bel_alloc (Below.refl w.heap.size w) (.cells (qV o n s A l.length c) 24)
  have X0 := Blk.new w 24 (qV o n s A l.length c)
  have HR := Lib.hid (fun W => refPlain25_any o n s A l.length c W (by simpa [Qy.s] using hs2))
  have hp : plaQ ⟨o, n, s, l⟩ = (oneQ o n s l.length && plaL l) := by simp only [plaQ]
  have HP := Lib.hid hp
  have HI := Lib.hid ih
  have HKS := Lib.hid hks
  clear hp ih hks hsm hs2 hq
  simp only [qV] at *
  generalize oneQ o n s l.length = b1 at *
  go_enter Try.func25, Try.ntmps25
  go_wp2_with fail
  go_loopw [3] (fun i wr => ∃ k : Nat, k ≤ l.length ∧ i = .int .i64 k ∧ Hid (plaL (l.take k) = true) ∧ Blk wr w.heap.size 24 (qV o n s A l.length c) ∧ Below w.heap.size w wr) (fun i _ => l.length - (intOf i).toNat)
  case atStart => exact ⟨0, Nat.zero_le _, rfl, Lib.hid rfl, X0, B0⟩
  case round =>
    obtain ⟨k, hkl, rfl, hsofar, hx, hb⟩ := hrel
    obtain ⟨x0, x1, x2, x3⟩ := box_facts hx
    have HX := Lib.hid hx
    clear hx
    by_cases hlt : k < l.length
    · have hlt' : decide (k < l.length) = true := by simpa using hlt
      obtain ⟨q, B, c', b, off, hg, rfl, -, hbs, hq', g1, g2, g3, g4, g5, f0, f1, f2, f3⟩ := (hk.bel hb).at hlt
      have hmem : q ∈ l := List.mem_of_getElem? hg.out
      have hsn : plaL (l.take (k + 1)) = plaQ q := by
        rw [plaL_all, List.take_add_one, hg.out, List.all_append, ← plaL_all, hsofar.out]
        simp
      have hno : plaQ q = false → plaL l = false := fun h => by
        rw [plaL_all, List.all_eq_false]
        exact ⟨q, hmem, by simp [h]⟩
      have HC := Lib.hid (HI.out q hmem _ wr S (HKS.out q hmem) hq'.out)
      have HS := Lib.hid hsn
      have HNO := Lib.hid hno
      clear hsn hno hmem hq'
      simp only [qV] at HC
      generalize plaQ q = pq at *
      go_wp2_with fail
      (with_reducible refine (HC.out).mono ?_)
      rintro e w2 ⟨rfl, hb2⟩
      have B3 := bel_step hb hb2
      cases pq with
      | true =>
        go_wp2_with fail
        go_roundw
        case rel => exact ⟨k + 1, by omega, by go_num, HS, HX.out.below hb2 HX.out.lt, B3⟩
        case measure => simp [intOf]; omega
      | false =>
        go_wp2_with fail
        go_ret
        exact ⟨by rw [HP.out, HNO.out (by simp), Bool.and_false]; rfl, B3⟩
    · obtain rfl : k = l.length := by omega
      have hlt' : decide (l.length < l.length) = false := by simp
      have hfin : plaL l = true := by have := hsofar.out; rwa [List.take_length] at this
      have HF := Lib.hid hfin
      clear hfin
      go_wp2_with fail
      (with_reducible refine (HR.out _).mono ?_)
      rintro e w2 ⟨rfl, hb2⟩
      go_wp2_with fail
      go_ret
      exact ⟨by rw [HP.out, HF.out, Bool.and_true]; rfl, bel_step hb hb2⟩
def okQ (q : Qy) : Bool := decide (depQ q 1 ≤ 12) && decide (nodQ q ≤ 64) && plaQ q
def errV (b : Bool) : Value := .int .i64 (if b then 0 else 250)
/-- what the checks ask: where a query is not too deep, its nodes can be counted, its texts are short -/
def Ask (q : Qy) : Prop := depQ q 1 ≤ 12 → nodQ q ≤ 1000000 ∧ Sml q

set_option maxHeartbeats 2000000 in
theorem Check25_any (q : Qy) (ha : Ask q) (vs : Array Value) (w : World) (S : Nat → Prop) (hq : QAt w S vs q) : Calls Try.prog 9 #[.agg vs] w fun e w' => e = .returned (errV (okQ q)) ∧ Below w.heap.size w w' := by
  have B0 := bel_alloc (Below.refl w.heap.size w) (.cells vs 24)
  have HX := Lib.hid (Blk.new w 24 vs)
  have HQ := Lib.hid hq
  have HD := Lib.hid (fun W hW => Depth25_any q vs W S trivial hW)
  have HND := Lib.hid (fun (h : nodK q) W hW => nodes25_any q vs W S h hW)
  have HPL := Lib.hid (fun (h : Sml q) W hW => plain25_any q vs W S h hW)
  have hp : okQ q = (decide (depQ q 1 ≤ 12) && decide (nodQ q ≤ 64) && plaQ q) := rfl
  have HP := Lib.hid hp
  have HA := Lib.hid (show depQ q 1 ≤ 12 → nodQ q ≤ 1000000 ∧ Sml q from ha)
  obtain ⟨A, c, rfl, ho, hn, hs, hc1, hc2, hk⟩ := hq.open_
  simp only [qV] at *
  clear hp ha hq hk
  have H1 := Lib.hid (HD.out _ (HQ.out.bel B0))
  generalize depQ q 1 = d at *
  by_cases h12 : d ≤ 12
  case neg =>
    have d1 : decide (12 < (d : Int)) = true := by simp; omega
    have d2 : decide ((d : Int) ≤ 12) = false := by simp; omega
    have hf : okQ q = false := by rw [HP.out, decide_eq_false h12]; rfl
    have HF := Lib.hid hf
    clear hf
    go_enter Try.func9, Try.ntmps9
    go_wp2_with fail
    (with_reducible refine (H1.out).mono ?_)
    rintro e w1 ⟨rfl, hb1⟩
    go_wp2_with fail
    go_ret
    exact ⟨by rw [HF.out]; rfl, bel_step B0 hb1⟩
  have d1 : decide (12 < (d : Int)) = false := by simp; omega
  have d2 : decide ((d : Int) ≤ 12) = true := by simp; omega
  obtain ⟨hn6, hsm⟩ := HA.out h12
  have HSM := Lib.hid hsm
  have HNK := Lib.hid (show nodK q by unfold nodK; omega)
  have HP2 : Hid (okQ q = (decide (nodQ q ≤ 64) && plaQ q)) := Lib.hid (by rw [HP.out, decide_eq_true h12, Bool.true_and])
  have H2 := Lib.hid (fun W hW => HND.out HNK.out W hW)
  clear HP HA HD HND hsm
  generalize nodQ q = m at *
  by_cases h64 : m ≤ 64
  case neg =>
    have e1 : decide (64 < (m : Int)) = true := by simp; omega
    have e2 : decide ((m : Int) ≤ 64) = false := by simp; omega
    have hf : okQ q = false := by rw [HP2.out, decide_eq_false h64]; rfl
    have HF := Lib.hid hf
    clear hf
    go_enter Try.func9, Try.ntmps9
    go_wp2_with fail
    (with_reducible refine (H1.out).mono ?_)
    rintro e w1 ⟨rfl, hb1⟩
    have B1 := bel_step B0 hb1
    obtain ⟨x0, x1, x2, x3⟩ := box_facts (HX.out.below hb1 HX.out.lt)
    have HQ1 := Lib.hid (HQ.out.bel B1)
    go_wp2_with fail
    (with_reducible refine (H2.out _ HQ1.out).mono ?_)
    rintro e w2 ⟨rfl, hb2⟩
    go_wp2_with fail
    go_ret
    exact ⟨by rw [HF.out]; rfl, bel_step B1 hb2⟩
  have e1 : decide (64 < (m : Int)) = false := by simp; omega
  have e2 : decide ((m : Int) ≤ 64) = true := by simp; omega
  have HP3 : Hid (okQ q = plaQ q) := Lib.hid (by rw [HP2.out, decide_eq_true h64, Bool.true_and])
  have H3 := Lib.hid (fun W hW => HPL.out HSM.out W hW)
  clear HP2 HPL
  generalize plaQ q = b at *
  go_enter Try.func9, Try.ntmps9
  go_wp2_with fail
  (with_reducible refine (H1.out).mono ?_)
  rintro e w1 ⟨rfl, hb1⟩
  have B1 := bel_step B0 hb1
  have HX1 := Lib.hid (HX.out.below hb1 HX.out.lt)
  obtain ⟨x0, x1, x2, x3⟩ := box_facts HX1.out
  have HQ1 := Lib.hid (HQ.out.bel B1)
  go_wp2_with fail
  (with_reducible refine (H2.out _ HQ1.out).mono ?_)
  rintro e w2 ⟨rfl, hb2⟩
  have B2 := bel_step B1 hb2
  clear x0 x1 x2 x3
  obtain ⟨x0, x1, x2, x3⟩ := box_facts (HX1.out.below hb2 HX1.out.lt)
  have HQ2 := Lib.hid (HQ.out.bel B2)
  go_wp2_with fail
  (with_reducible refine (H3.out _ HQ2.out).mono ?_)
  rintro e w3 ⟨rfl, hb3⟩
  have B3 := bel_step B2 hb3
  cases b with
  | true =>
    go_wp2_with fail
    go_ret
    exact ⟨by rw [HP3.out]; rfl, B3⟩
  | false =>
    go_wp2_with fail
    go_ret
    exact ⟨by rw [HP3.out]; rfl, B3⟩

set_option maxHeartbeats 2000000 in
theorem refCheck25_any (q : Qy) (ha : Ask q) (vs : Array Value) (w : World) (S : Nat → Prop) (hq : QAt w S vs q) : Calls Try.prog 10 #[.agg vs] w fun e w' => e = .returned (.bool (okQ q)) ∧ Below w.heap.size w w' := by
  have B0 := bel_alloc (Below.refl w.heap.size w) (.cells vs 24)
  have HX := Lib.hid (Blk.new w 24 vs)
  have HQ := Lib.hid hq
  have HD := Lib.hid (fun W hW => refDepth_any25 q vs W S trivial hW)
  have HND := Lib.hid (fun (h : nodK q) W hW => refNodes25_any q vs W S h hW)
  have HPL := Lib.hid (fun (h : Sml q) W hW => refAll25_any q vs W S h hW)
  have hp : okQ q = (decide (depQ q 1 ≤ 12) && decide (nodQ q ≤ 64) && plaQ q) := rfl
  have HP := Lib.hid hp
  have HA := Lib.hid (show depQ q 1 ≤ 12 → nodQ q ≤ 1000000 ∧ Sml q from ha)
  obtain ⟨A, c, rfl, ho, hn, hs, hc1, hc2, hk⟩ := hq.open_
  simp only [qV] at *
  clear hp ha hq hk
  have H1 := Lib.hid (HD.out _ (HQ.out.bel B0))
  generalize depQ q 1 = d at *
  by_cases h12 : d ≤ 12
  case neg =>
    have d1 : decide (12 < (d : Int)) = true := by simp; omega
    have d2 : decide ((d : Int) ≤ 12) = false := by simp; omega
    have hf : okQ q = false := by rw [HP.out, decide_eq_false h12]; rfl
    have HF := Lib.hid hf
    clear hf
    go_enter Try.func10, Try.ntmps10
    go_wp2_with fail
    (with_reducible refine (H1.out).mono ?_)
    rintro e w1 ⟨rfl, hb1⟩
    go_wp2_with fail
    go_ret
    exact ⟨by rw [HF.out]; rfl, bel_step B0 hb1⟩
  have d1 : decide (12 < (d : Int)) = false := by simp; omega
  have d2 : decide ((d : Int) ≤ 12) = true := by simp; omega
  obtain ⟨hn6, hsm⟩ := HA.out h12
  have HSM := Lib.hid hsm
  have HNK := Lib.hid (show nodK q by unfold nodK; omega)
  have HP2 : Hid (okQ q = (decide (nodQ q ≤ 64) && plaQ q)) := Lib.hid (by rw [HP.out, decide_eq_true h12, Bool.true_and])
  have H2 := Lib.hid (fun W hW => HND.out HNK.out W hW)
  clear HP HA HD HND hsm
  generalize nodQ q = m at *
  by_cases h64 : m ≤ 64
  case neg =>
    have e1 : decide (64 < (m : Int)) = true := by simp; omega
    have e2 : decide ((m : Int) ≤ 64) = false := by simp; omega
    have hf : okQ q = false := by rw [HP2.out, decide_eq_false h64]; rfl
    have HF := Lib.hid hf
    clear hf
    go_enter Try.func10, Try.ntmps10
    go_wp2_with fail
    (with_reducible refine (H1.out).mono ?_)
    rintro e w1 ⟨rfl, hb1⟩
    have B1 := bel_step B0 hb1
    obtain ⟨x0, x1, x2, x3⟩ := box_facts (HX.out.below hb1 HX.out.lt)
    have HQ1 := Lib.hid (HQ.out.bel B1)
    go_wp2_with fail
    (with_reducible refine (H2.out _ HQ1.out).mono ?_)
    rintro e w2 ⟨rfl, hb2⟩
    go_wp2_with fail
    go_ret
    exact ⟨by rw [HF.out]; rfl, bel_step B1 hb2⟩
  have e1 : decide (64 < (m : Int)) = false := by simp; omega
  have e2 : decide ((m : Int) ≤ 64) = true := by simp; omega
  have HP3 : Hid (okQ q = plaQ q) := Lib.hid (by rw [HP2.out, decide_eq_true h64, Bool.true_and])
  have H3 := Lib.hid (fun W hW => HPL.out HSM.out W hW)
  clear HP2 HPL
  generalize plaQ q = b at *
  go_enter Try.func10, Try.ntmps10
  go_wp2_with fail
  (with_reducible refine (H1.out).mono ?_)
  rintro e w1 ⟨rfl, hb1⟩
  have B1 := bel_step B0 hb1
  have HX1 := Lib.hid (HX.out.below hb1 HX.out.lt)
  obtain ⟨x0, x1, x2, x3⟩ := box_facts HX1.out
  have HQ1 := Lib.hid (HQ.out.bel B1)
  go_wp2_with fail
  (with_reducible refine (H2.out _ HQ1.out).mono ?_)
  rintro e w2 ⟨rfl, hb2⟩
  have B2 := bel_step B1 hb2
  clear x0 x1 x2 x3
  obtain ⟨x0, x1, x2, x3⟩ := box_facts (HX1.out.below hb2 HX1.out.lt)
  have HQ2 := Lib.hid (HQ.out.bel B2)
  go_wp2_with fail
  (with_reducible refine (H3.out _ HQ2.out).mono ?_)
  rintro e w3 ⟨rfl, hb3⟩
  have B3 := bel_step B2 hb3
  cases b with
  | true =>
    go_wp2_with fail
    go_ret
    exact ⟨by rw [HP3.out]; rfl, B3⟩
  | false =>
    go_wp2_with fail
    go_ret
    exact ⟨by rw [HP3.out]; rfl, B3⟩
end Go.Proofs.Ytjnhhdkphcbflaa
