/-
  crc.Open.
-/
import Derived.Test.YtgklbejnbplbgaaDoorCrcC
import Derived.Deep.RegionHeld3
import Derived.Deep.DrawnRows
import Derived.Deep.QuietTactic
import Derived.BigQuiet
namespace Go.Proofs.YtgklbejnbplbgaaDoor
open Go.RowKit Go.Nst
set_option maxRecDepth 100000


/-- what was sealed -/
def openL (l : List UInt8) : List UInt8 × Bool := if l.length < 4 ∨ leN (l.drop (l.length - 4)) ≠ crcSum (l.take (l.length - 4)) then ([], false) else (l.take (l.length - 4), true)
def RetO (w : World) (r : List UInt8 × Bool) (e : Ending) (w' : World) : Prop := ∃ A n c, e = .returned (.tuple #[.slice A n c, .int .i64 (if r.2 then 0 else 20)]) ∧ Ow w' w.heap.size A n c r.1 ∧ Below w.heap.size w w'

theorem openL_eq {l : List UInt8} {m : Nat} (h : l.length = m + 4) : openL l = if leN (l.drop m) ≠ crcSum (l.take m) then ([], false) else (l.take m, true) := by
  unfold openL
  rw [h, Nat.add_sub_cancel]
  by_cases hx : leN (l.drop m) ≠ crcSum (l.take m)
  · rw [if_pos (.inr hx), if_pos hx]
  · rw [if_neg (by rintro (h1 | h1); exact absurd h1 (by omega); exact hx h1), if_neg hx]
theorem readWord_word {P : Program} {f : FuncId} {args : Array Value} {w : World} {g : Nat} {l : List UInt8} (hl : l.length = 4) (h : Calls P f args w (RetN w g (RS.word ⟨l, false⟩))) :
    Calls P f args w fun e w' => e = .returned (.int .u32 (leN l : Int)) ∧ w.grownBy w' (some g) :=
  h.mono fun e w' hh => by
    obtain ⟨h1, _, h3⟩ := hh
    refine ⟨?_, h3⟩
    rw [h1]
    have : (RS.word ⟨l, false⟩).1 = leN l := by
      unfold RS.word RS.take
      rw [if_neg (by simp [hl])]
      simp [List.take_of_length_le, hl]
    rw [this]

set_option maxHeartbeats 1000000 in
theorem open_any (A : Option Addr) (n c : Nat) (l : List UInt8) (w : World) (hn : n ≤ 140737488350000) (hB : Bs w A n l) (ht : Tab w) (hnc : n ≤ c) :
    Calls Tryd.prog 17 #[.slice A n c] w (RetO w (openL l)) := by
  by_cases h4 : n < 4
  · have hd : decide ((n : Int) - 4 < 0) = true := by simp; omega
    have HO : Hid (openL l = ([], false)) := by
      unfold openL
      rw [if_pos (.inl (by rw [hB.len]; exact h4))]
      exact Lib.hid rfl
    go_enter Tryd.func17, Tryd.ntmps17
    go_wp2_with fail
    go_quiet (fail)
    go_wp2_with fail
    go_ret2
    exact ⟨none, 0, 0, by rw [HO.out]; rfl, by rw [HO.out]; exact Ow.nil, below_drewN (Below.refl _ _) nq⟩
  · obtain ⟨m, hm⟩ : ∃ m, n = m + 4 := ⟨n - 4, by omega⟩
    have e4 : (n : Int) - 4 = (m : Int) := by omega
    have hd : decide ((m : Int) < 0) = false := by simp
    have hcm : ¬ c = m := by omega
    have b1 : (m : Int) ≤ (c : Int) := by omega
    have b2 : (0 : Int) ≤ (m : Int) := by omega
    have b3 : (m : Int) ≤ (n : Int) := by omega
    have b4 : m ≤ n := by omega
    have HM := Lib.hid hm
    clear hm
    have hCut := hB.cut b4 hnc
    rw [if_neg hcm] at hCut
    have hUp := hB.upto b4
    have HWd := Lib.hid (fun (g : Nat) (W : World) (hR : Rd W g ⟨l.drop m, false⟩) => readWord_word (by rw [List.length_drop, hB.len]; omega) (readWord_any g _ W hR))
    have HSm := Lib.hid (fun (W : World) (hb : Below w.heap.size w W) => sum_any A m c (l.take m) W (by omega) (hUp.below hb) (ht.below hb))
    have HO : Hid (openL l = if leN (l.drop m) ≠ crcSum (l.take m) then ([], false) else (l.take m, true)) := openL_eq (by rw [hB.len]; exact HM.out)
    by_cases hx : leN (l.drop m) = crcSum (l.take m)
    · have hneq : (((leN (l.drop m) : Nat) : Int) != ((crcSum (l.take m) : Nat) : Int)) = false := by simp [hx]
      have HO2 : Hid (openL l = (l.take m, true)) := by rw [HO.out, if_neg (by simpa using hx)]; exact Lib.hid rfl
      clear hx HO
      generalize leN (l.drop m) = x at *
      generalize crcSum (l.take m) = y at *
      go_enter Tryd.func17, Tryd.ntmps17
      go_wp2_with fail
      go_region_held3 (fun w' => Below w.heap.size w w') (first | exact S2 | exact S1 | exact (Below.refl _ _).drew)
        (first
          | (go_at_call 32; refine (from_any _ _ _ _ _ (by omega) (hCut.below (Below.refl _ _).drew)).mono ?_; rintro e w1 ⟨g, rfl, hR1, hg1, hb1⟩; have S1 : Below w.heap.size w w1 := bel_step (Below.refl _ _).drew hb1)
          | (go_at_call 33; refine (HWd.out _ _ hR1).mono ?_; rintro e w2 ⟨rfl, hg2⟩; have S2 : Below w.heap.size w w2 := below_only S1 hg2 hg1 S1.size)
          | (go_at_call 12; refine (HSm.out _ S2).mono ?_; rintro e w3 ⟨rfl, rfl⟩))
      go_wp2_with fail
      refine (clone_any A m c _ w2 (by omega) (hUp.below S2)).mono ?_
      rintro e w3 ⟨A3, n3, c3, rfl, ho3, hb3⟩
      go_wp2_with fail
      go_ret2
      rw [HO2.out]
      exact ⟨A3, n3, c3, rfl, ho3.mono S2.size, bel_step S2 hb3⟩
    · have hneq : (((leN (l.drop m) : Nat) : Int) != ((crcSum (l.take m) : Nat) : Int)) = true := by rw [bne_iff_ne]; omega
      have HO2 : Hid (openL l = ([], false)) := by rw [HO.out, if_pos (by simpa using hx)]; exact Lib.hid rfl
      clear hx HO
      generalize leN (l.drop m) = x at *
      generalize crcSum (l.take m) = y at *
      go_enter Tryd.func17, Tryd.ntmps17
      go_wp2_with fail
      go_region_held3 (fun w' => Below w.heap.size w w') (first | exact S2 | exact S1 | exact (Below.refl _ _).drew)
        (first
          | (go_at_call 32; refine (from_any _ _ _ _ _ (by omega) (hCut.below (Below.refl _ _).drew)).mono ?_; rintro e w1 ⟨g, rfl, hR1, hg1, hb1⟩; have S1 : Below w.heap.size w w1 := bel_step (Below.refl _ _).drew hb1)
          | (go_at_call 33; refine (HWd.out _ _ hR1).mono ?_; rintro e w2 ⟨rfl, hg2⟩; have S2 : Below w.heap.size w w2 := below_only S1 hg2 hg1 S1.size)
          | (go_at_call 12; refine (HSm.out _ S2).mono ?_; rintro e w3 ⟨rfl, rfl⟩))
      go_wp2_with fail
      go_ret2
      rw [HO2.out]
      exact ⟨none, 0, 0, rfl, Ow.nil, S2⟩
end Go.Proofs.YtgklbejnbplbgaaDoor
