/-
  named: slices.ContainsFunc over attributes at named$1.
-/
import Derived.Test.YtnagckdaleafdaaXmH
namespace Go.Proofs.Ytnagckdaleafdaa
open Go.RowKit Go.Nst
set_option maxRecDepth 100000
set_option linter.unusedVariables false
set_option linter.unusedSimpArgs false

def IdxX (w : World) (b : Bool) (e : Ending) (w' : World) : Prop := ∃ z : Int, e = .returned (.int .i64 z) ∧ decide (0 ≤ z) = b ∧ Below w.heap.size w w'
def hasNm (l : List Xat) (n : List UInt8) : Bool := l.any fun x => x.nm == n
theorem named1_any (a : Xat) (n : List UInt8) (g0 : Nat) (W : World) (h0 : Blk W g0 9 #[.string ⟨n.toArray⟩]) :
    Calls Try.prog 77 #[.agg (xaV a), .pointer (some ⟨g0, 0, none⟩)] W fun e w' => e = .returned (.bool (a.nm == n)) ∧ Below W.heap.size W w' := by
  have l0 := h0.lt
  have z0 := h0.cell 0
  simp at z0
  clear h0
  simp only [xaV]
  have HE : Hid ((a.nm == n) = (a.nm == n)) := rfl
  go_enter Try.func77, Try.ntmps77
  go_wp2_with fail
  go_ret
  exact ⟨rfl, bel_alloc (Below.refl _ _) _⟩
theorem index8_any (nm : List UInt8) (g0 : Nat) (l : List Xat) (A : Option Addr) (n c : Nat) (w : World) (S : Nat → Prop) (hc : n ≤ c ∧ c ≤ 9223372036854775807) (hk : XaA w S A n l) (hw : Blk w g0 9 #[.string ⟨nm.toArray⟩]) :
    Calls Try.prog 87 #[.slice A n c, .func (.func 77) #[] #[.pointer (some ⟨g0, 0, none⟩)]] w (IdxX w (hasNm l nm)) := by
  have hln := hk.1
  have HLN := Lib.hid hln
  have hc1 := hc.1
  have hc2 := hc.2
  clear hc hln
  unfold hasNm
  go_enter Try.func87, Try.ntmps87
  go_wp2_with fail
  go_loopw [8] (fun i wr => ∃ k : Nat, k ≤ n ∧ i = .int .i64 k ∧ Hid ((l.take k).any (fun x => x.nm == nm) = false) ∧ Hid (Blk wr g0 9 #[.string ⟨nm.toArray⟩]) ∧ Below w.heap.size w wr) (fun i _ => n - (intOf i).toNat)
  case atStart => exact ⟨0, Nat.zero_le _, rfl, Lib.hid (by simp), Lib.hid hw, Below.refl _ _⟩
  case round =>
    obtain ⟨k, hkl, rfl, hsofar, hiw, hb⟩ := hrel
    by_cases hlt : k < n
    · have hlt' : decide (k < n) = true := by simpa using hlt
      obtain ⟨a, b, off, hg, rfl, -, hbs, g1, g2, f0, f1⟩ := xa_at (hk.bel xaP hb) hlt
      have HM := Lib.hid (List.mem_of_getElem? hg.out)
      have hsn : (l.take (k + 1)).any (fun x => x.nm == nm) = (a.nm == nm) := by
        rw [List.take_add_one, hg.out, List.any_append, hsofar.out]
        simp
      have hany : (a.nm == nm) = true → l.any (fun x => x.nm == nm) = true := fun hp => List.any_eq_true.2 ⟨a, HM.out, hp⟩
      have HS := Lib.hid hsn
      have HA := Lib.hid hany
      have HC := Lib.hid (named1_any a nm g0 wr hiw.out)
      clear hsn hany
      simp only [xaV] at HC
      generalize (a.nm == nm) = pq at *
      go_wp2_with fail
      (with_reducible refine (HC.out).mono ?_)
      rintro e w2 ⟨rfl, hb2⟩
      have B3 := bel_step hb hb2
      cases pq with
      | true =>
        go_wp2_with fail
        go_ret
        exact ⟨k, rfl, by rw [HA.out (by simp)]; simp, B3⟩
      | false =>
        go_wp2_with fail
        go_roundw
        case rel => exact ⟨k + 1, by omega, by go_num, HS, Lib.hid (hiw.out.below hb2 hiw.out.lt), B3⟩
        case measure => simp [intOf]; omega
    · obtain rfl : k = n := by omega
      have hlt' : decide (k < k) = false := by simp
      have hfin : l.any (fun x => x.nm == nm) = false := by have := hsofar.out; rwa [List.take_of_length_le (by have := HLN.out; omega)] at this
      have HF := Lib.hid hfin
      clear hfin
      go_wp2_with fail
      go_ret
      exact ⟨-1, rfl, by rw [HF.out]; rfl, hb⟩
theorem contains8_any (nm : List UInt8) (g0 : Nat) (l : List Xat) (A : Option Addr) (n c : Nat) (w : World) (S : Nat → Prop) (hc : n ≤ c ∧ c ≤ 9223372036854775807) (hk : XaA w S A n l) (hw : Blk w g0 9 #[.string ⟨nm.toArray⟩]) :
    Calls Try.prog 76 #[.slice A n c, .func (.func 77) #[] #[.pointer (some ⟨g0, 0, none⟩)]] w fun e w' => e = .returned (.bool (hasNm l nm)) ∧ Below w.heap.size w w' := by
  have HC := Lib.hid (index8_any nm g0 l A n c w S hc hk hw)
  clear hk hw
  generalize hasNm l nm = b at *
  go_enter Try.func76, Try.ntmps76
  go_wp2_with fail
  (with_reducible refine (HC.out).mono ?_)
  rintro e w2 ⟨z, rfl, hz, hb2⟩
  go_wp2_with fail
  go_ret
  exact ⟨by rw [← hz]; simp, hb2⟩
theorem named8_any (nm : List UInt8) (l : List Xat) (A : Option Addr) (n c : Nat) (w : World) (S : Nat → Prop) (hc : n ≤ c ∧ c ≤ 9223372036854775807) (hk : XaA w S A n l) :
    Calls Try.prog 61 #[.slice A n c, .string ⟨nm.toArray⟩] w fun e w' => e = .returned (.bool (hasNm l nm)) ∧ Below w.heap.size w w' := by
  have B0 := bel_alloc (Below.refl w.heap.size w) (.cells #[.string ⟨nm.toArray⟩] 9)
  have HC := Lib.hid (contains8_any nm w.heap.size l A n c _ S hc (hk.bel xaP B0) (Blk.new w 9 #[.string ⟨nm.toArray⟩]))
  clear hk
  generalize hasNm l nm = b at *
  go_enter Try.func61, Try.ntmps61
  go_wp2_with fail
  (with_reducible refine (HC.out).mono ?_)
  rintro e w2 ⟨rfl, hb2⟩
  go_wp2_with fail
  go_ret
  exact ⟨rfl, bel_step B0 hb2⟩
end Go.Proofs.Ytnagckdaleafdaa
