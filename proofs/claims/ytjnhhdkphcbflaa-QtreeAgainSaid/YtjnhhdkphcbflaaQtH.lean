/-
  slices.IndexFunc, slices.ContainsFunc over queries at the closures of once and join (printed by gen_qtg.py).
-/
import Derived.Test.YtjnhhdkphcbflaaQtG
namespace Go.Proofs.Ytjnhhdkphcbflaa
open Go.RowKit Go.Nst
set_option maxRecDepth 100000
set_option linter.unusedVariables false
set_option linter.unusedSimpArgs false

/-- slices.IndexFunc at newsstand/qtree.once[newsstand/api.Query]$1 -/
theorem index_once (p : Qy → Bool) (I : World → Prop) (g0 : Nat) (g1 : Nat) (hI : ∀ W W' : World, I W → Below W.heap.size W W' → I W') (l : List Qy) (H : ∀ q ∈ l, ∀ (vs : Array Value) (W : World) (S : Nat → Prop), I W → QAt W S vs q → Calls Try.prog 62 #[.agg vs, .pointer (some ⟨g0, 0, none⟩), .pointer (some ⟨g1, 0, none⟩)] W fun e w' => e = .returned (.bool (p q)) ∧ Below W.heap.size W w')
    (A : Option Addr) (n c : Nat) (w : World) (S : Nat → Prop) (hc : n ≤ c ∧ c ≤ 9223372036854775807) (hk : QsAt w S A n l) (hw : I w) : Calls Try.prog 48 #[.slice A n c, .func (.func 62) #[] #[.pointer (some ⟨g0, 0, none⟩), .pointer (some ⟨g1, 0, none⟩)]] w (IdxR w (l.any p)) := by
  have HI := Lib.hid hI
  have HH := Lib.hid H
  have hln := hk.1
  have HLN := Lib.hid hln
  have hc1 := hc.1
  have hc2 := hc.2
  clear hI H hc hln
  go_enter Try.func48, Try.ntmps48
  go_wp2_with fail
  go_loopw [8] (fun i wr => ∃ k : Nat, k ≤ n ∧ i = .int .i64 k ∧ Hid ((l.take k).any p = false) ∧ Hid (I wr) ∧ Below w.heap.size w wr) (fun i _ => n - (intOf i).toNat)
  case atStart => exact ⟨0, Nat.zero_le _, rfl, Lib.hid (by simp), Lib.hid hw, Below.refl _ _⟩
  case round =>
    obtain ⟨k, hkl, rfl, hsofar, hiw, hb⟩ := hrel
    by_cases hlt : k < n
    · have hlt' : decide (k < n) = true := by simpa using hlt
      obtain ⟨q, B, c', b, off, hg, rfl, -, hbs, hq', g1, g2, g3, g4, g5, f0, f1, f2, f3⟩ := (hk.bel hb).at hlt
      have HM := Lib.hid (List.mem_of_getElem? hg.out)
      have hsn : (l.take (k + 1)).any p = p q := by
        rw [List.take_add_one, hg.out, List.any_append, hsofar.out]
        simp
      have hany : p q = true → l.any p = true := fun hp => List.any_eq_true.2 ⟨q, HM.out, hp⟩
      have HS := Lib.hid hsn
      have HA := Lib.hid hany
      have HC := Lib.hid (HH.out q HM.out _ wr S hiw.out hq'.out)
      clear hsn hq' hany
      simp only [qV] at HC
      generalize p q = pq at *
      go_wp2_with fail
      (with_reducible refine (HC.out).mono ?_)
      rintro e w2 ⟨rfl, hb2⟩
      have B3 := bel_step hb hb2
      cases pq with
      | true =>
        go_wp2_with fail
        go_ret
        exact ⟨k, rfl, by rw [HA.out (by simp)]; simp, B3⟩
      | false =>
        go_wp2_with fail
        go_roundw
        case rel => exact ⟨k + 1, by omega, by go_num, HS, Lib.hid (HI.out _ _ hiw.out hb2), B3⟩
        case measure => simp [intOf]; omega
    · obtain rfl : k = n := by omega
      have hlt' : decide (k < k) = false := by simp
      have hfin : l.any p = false := by have := hsofar.out; rwa [List.take_of_length_le (by have := HLN.out; omega)] at this
      have HF := Lib.hid hfin
      clear hfin
      go_wp2_with fail
      go_ret
      exact ⟨-1, rfl, by rw [HF.out]; rfl, hb⟩
/-- slices.ContainsFunc at newsstand/qtree.once[newsstand/api.Query]$1 -/
theorem contains_once (p : Qy → Bool) (I : World → Prop) (g0 : Nat) (g1 : Nat) (hI : ∀ W W' : World, I W → Below W.heap.size W W' → I W') (l : List Qy) (H : ∀ q ∈ l, ∀ (vs : Array Value) (W : World) (S : Nat → Prop), I W → QAt W S vs q → Calls Try.prog 62 #[.agg vs, .pointer (some ⟨g0, 0, none⟩), .pointer (some ⟨g1, 0, none⟩)] W fun e w' => e = .returned (.bool (p q)) ∧ Below W.heap.size W w')
    (A : Option Addr) (n c : Nat) (w : World) (S : Nat → Prop) (hc : n ≤ c ∧ c ≤ 9223372036854775807) (hk : QsAt w S A n l) (hw : I w) : Calls Try.prog 36 #[.slice A n c, .func (.func 62) #[] #[.pointer (some ⟨g0, 0, none⟩), .pointer (some ⟨g1, 0, none⟩)]] w fun e w' => e = .returned (.bool (l.any p)) ∧ Below w.heap.size w w' := by
  have HC := Lib.hid (index_once p I g0 g1 hI l H A n c w S hc hk hw)
  clear hI H hk
  generalize l.any p = b at *
  go_enter Try.func36, Try.ntmps36
  go_wp2_with fail
  (with_reducible refine (HC.out).mono ?_)
  rintro e w2 ⟨z, rfl, hz, hb2⟩
  go_wp2_with fail
  go_ret
  exact ⟨by rw [← hz]; simp, hb2⟩

/-- slices.IndexFunc at newsstand/qtree.join$1 -/
theorem index_join (p : Qy → Bool) (I : World → Prop) (g0 : Nat) (hI : ∀ W W' : World, I W → Below W.heap.size W W' → I W') (l : List Qy) (H : ∀ q ∈ l, ∀ (vs : Array Value) (W : World) (S : Nat → Prop), I W → QAt W S vs q → Calls Try.prog 53 #[.agg vs, .pointer (some ⟨g0, 0, none⟩)] W fun e w' => e = .returned (.bool (p q)) ∧ Below W.heap.size W w')
    (A : Option Addr) (n c : Nat) (w : World) (S : Nat → Prop) (hc : n ≤ c ∧ c ≤ 9223372036854775807) (hk : QsAt w S A n l) (hw : I w) : Calls Try.prog 48 #[.slice A n c, .func (.func 53) #[] #[.pointer (some ⟨g0, 0, none⟩)]] w (IdxR w (l.any p)) := by
  have HI := Lib.hid hI
  have HH := Lib.hid H
  have hln := hk.1
  have HLN := Lib.hid hln
  have hc1 := hc.1
  have hc2 := hc.2
  clear hI H hc hln
  go_enter Try.func48, Try.ntmps48
  go_wp2_with fail
  go_loopw [8] (fun i wr => ∃ k : Nat, k ≤ n ∧ i = .int .i64 k ∧ Hid ((l.take k).any p = false) ∧ Hid (I wr) ∧ Below w.heap.size w wr) (fun i _ => n - (intOf i).toNat)
  case atStart => exact ⟨0, Nat.zero_le _, rfl, Lib.hid (by simp), Lib.hid hw, Below.refl _ _⟩
  case round =>
    obtain ⟨k, hkl, rfl, hsofar, hiw, hb⟩ := hrel
    by_cases hlt : k < n
    · have hlt' : decide (k < n) = true := by simpa using hlt
      obtain ⟨q, B, c', b, off, hg, rfl, -, hbs, hq', g1, g2, g3, g4, g5, f0, f1, f2, f3⟩ := (hk.bel hb).at hlt
      have HM := Lib.hid (List.mem_of_getElem? hg.out)
      have hsn : (l.take (k + 1)).any p = p q := by
        rw [List.take_add_one, hg.out, List.any_append, hsofar.out]
        simp
      have hany : p q = true → l.any p = true := fun hp => List.any_eq_true.2 ⟨q, HM.out, hp⟩
      have HS := Lib.hid hsn
      have HA := Lib.hid hany
      have HC := Lib.hid (HH.out q HM.out _ wr S hiw.out hq'.out)
      clear hsn hq' hany
      simp only [qV] at HC
      generalize p q = pq at *
      go_wp2_with fail
      (with_reducible refine (HC.out).mono ?_)
      rintro e w2 ⟨rfl, hb2⟩
      have B3 := bel_step hb hb2
      cases pq with
      | true =>
        go_wp2_with fail
        go_ret
        exact ⟨k, rfl, by rw [HA.out (by simp)]; simp, B3⟩
      | false =>
        go_wp2_with fail
        go_roundw
        case rel => exact ⟨k + 1, by omega, by go_num, HS, Lib.hid (HI.out _ _ hiw.out hb2), B3⟩
        case measure => simp [intOf]; omega
    · obtain rfl : k = n := by omega
      have hlt' : decide (k < k) = false := by simp
      have hfin : l.any p = false := by have := hsofar.out; rwa [List.take_of_length_le (by have := HLN.out; omega)] at this
      have HF := Lib.hid hfin
      clear hfin
      go_wp2_with fail
      go_ret
      exact ⟨-1, rfl, by rw [HF.out]; rfl, hb⟩
/-- slices.ContainsFunc at newsstand/qtree.join$1 -/
theorem contains_join (p : Qy → Bool) (I : World → Prop) (g0 : Nat) (hI : ∀ W W' : World, I W → Below W.heap.size W W' → I W') (l : List Qy) (H : ∀ q ∈ l, ∀ (vs : Array Value) (W : World) (S : Nat → Prop), I W → QAt W S vs q → Calls Try.prog 53 #[.agg vs, .pointer (some ⟨g0, 0, none⟩)] W fun e w' => e = .returned (.bool (p q)) ∧ Below W.heap.size W w')
    (A : Option Addr) (n c : Nat) (w : World) (S : Nat → Prop) (hc : n ≤ c ∧ c ≤ 9223372036854775807) (hk : QsAt w S A n l) (hw : I w) : Calls Try.prog 36 #[.slice A n c, .func (.func 53) #[] #[.pointer (some ⟨g0, 0, none⟩)]] w fun e w' => e = .returned (.bool (l.any p)) ∧ Below w.heap.size w w' := by
  have HC := Lib.hid (index_join p I g0 hI l H A n c w S hc hk hw)
  clear hI H hk
  generalize l.any p = b at *
  go_enter Try.func36, Try.ntmps36
  go_wp2_with fail
  (with_reducible refine (HC.out).mono ?_)
  rintro e w2 ⟨z, rfl, hz, hb2⟩
  go_wp2_with fail
  go_ret
  exact ⟨by rw [← hz]; simp, hb2⟩
end Go.Proofs.Ytjnhhdkphcbflaa
