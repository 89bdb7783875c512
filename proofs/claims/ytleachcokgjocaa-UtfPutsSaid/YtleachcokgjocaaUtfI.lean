/-
  Clean: the code's and the reference's.
-/
import Derived.Test.YtleachcokgjocaaUtfH
namespace Go.Proofs.Ytleachcokgjocaa
open Go.RowKit Go.Nst
set_option maxRecDepth 100000
set_option linter.unusedVariables false
set_option linter.unusedSimpArgs false

theorem putR_nil_iff (l : List Int) : 0 < (putR l).length ↔ 0 < l.length := by
  cases l with
  | nil => simp [putR]
  | cons z t =>
    have := enc_len z
    simp only [putR, List.flatMap_cons, List.length_append, List.length_cons]
    omega
theorem putR_snoc (l : List Int) (z : Int) : putR (l ++ [z]) = putR l ++ Lib.encodeRune z := by simp [putR]
theorem enc_32 : Lib.encodeRune 32 = [32] := by decide
/-- the clean text of a text -/
def cleanT (l : List UInt8) : List UInt8 := putR (cleanR (runesI l))
def cleanG (st : List Int × Bool) (l : List Int) : List Int := (l.foldl cleanS st).1
theorem cleanG_cons (st : List Int × Bool) (c : Int) (l : List Int) : cleanG st (c :: l) = cleanG (cleanS st c) l := rfl
theorem clean_round {l : List UInt8} {pos : Nat} {st : List Int × Bool} {fin : List Int} (h : fin = cleanG st (runesI (l.drop pos))) (hp : pos < l.length) : fin = cleanG (cleanS st ((firstL (l.drop pos)).1 : Int)) (runesI (l.drop (pos + (firstL (l.drop pos)).2))) := by
  rw [h, runesI_step (drop_ne hp), List.drop_drop, cleanG_cons]
theorem clean_end {l : List UInt8} {pos : Nat} {st : List Int × Bool} {fin : List Int} (h : fin = cleanG st (runesI (l.drop pos))) (hp : ¬ pos < l.length) : fin = st.1 := by
  rw [h, List.drop_of_length_le (by omega)]
  rfl

set_option maxHeartbeats 4000000 in
theorem clean_any (s : ByteArray) (w : World) (hS : s.size ≤ 1000000) : Calls Try.prog 18 #[.string s] w (RetS w (cleanT (bl s))) := by
  have hbl := bl_len s
  have HF : ∃ fin, cleanR (runesI (bl s)) = fin := ⟨_, rfl⟩
  obtain ⟨fin, hfin⟩ := HF
  have HT : Hid (fin = cleanG ([], false) (runesI ((bl s).drop 0))) := Lib.hid hfin.symm
  unfold cleanT
  rw [hfin]
  clear hfin
  go_enter Try.func18, Try.ntmps18
  go_wp2_with fail
  go_loopw [4] (fun v wr => ∃ (pos : Nat) (out : List Int) (wait : Bool), v = .bool wait ∧ pos ≤ s.size ∧ out.length ≤ 2 * pos ∧ Bd wr w.heap.size w.heap.size (putR out) ∧ wr.heap[w.heap.size + 1]? = some (.stringIter s pos) ∧ Below w.heap.size w wr ∧ Hid (fin = cleanG (out, wait) (runesI ((bl s).drop pos)))) (fun _ wr => s.size - wr.iterPos (w.heap.size + 1))
  case atStart =>
    refine ⟨0, [], false, rfl, by omega, by simp, (Bd.fresh w).alloc _, ?_, bel_alloc (bel_alloc (Below.refl _ _) _) _, HT⟩
    have := World.iter_heap (w.alloc (.cells #[.pointer none, .slice none 0 0] 40)) s 0
    simpa using this
  case round =>
    obtain ⟨pos, out, wait, rfl, hps, hol, hbd, hit, hbw, HR⟩ := hrel
    have hsz : w.heap.size + 1 < wr.heap.size := (Array.getElem?_eq_some_iff.1 hit).1
    by_cases hp : pos < s.size
    · have hnx : ∀ ty, (Instr.next (.pointer (some ⟨w.heap.size + 1, 0, none⟩)) true ty).run Try.prog wr = _ := fun ty => Lib.run_next_any_at wr (w.heap.size + 1) s pos ty hit hp
      have hw1 := firstL_width ((bl s).drop pos) (drop_ne (by omega))
      have hr1 := (firstL_rune ((bl s).drop pos)).1
      have HN := Lib.hid (clean_round HR.out (by omega))
      have hle : pos + (firstL ((bl s).drop pos)).2 ≤ s.size := by have := hw1.2.2; rw [List.length_drop, hbl] at this; omega
      rw [decode_bl s pos hp] at hnx
      generalize firstL ((bl s).drop pos) = f at *
      have hit2 := Lib.iterAt_heap wr (w.heap.size + 1) s pos (pos + f.2) hit
      have hbw2 := Lib.below_iterAt hbw (k := w.heap.size + 1) (by omega) s (pos + f.2)
      have hbd2 : Bd (wr.iterAt (w.heap.size + 1) s (pos + f.2)) w.heap.size w.heap.size (putR out) := Lib.IsBuilderF.iterAt hbd hit (pos + f.2)
      have hsz2 : w.heap.size + 1 < (wr.iterAt (w.heap.size + 1) s (pos + f.2)).heap.size := by rw [Lib.iterAt_size]; omega
      have hpl := putR_len out
      have HPI := Lib.hid (putR_nil_iff out)
      unfold cleanS at HN
      by_cases b1 : blankB (f.1 : Int) = true
      · have HC := Lib.hid (blank_yes (f.1 : Int) (wr.iterAt (w.heap.size + 1) s (pos + f.2)) b1)
        have HL := Lib.hid (bLen_k w.heap.size w.heap.size (putR out) (wr.iterAt (w.heap.size + 1) s (pos + f.2)) hbd2)
        rw [if_pos b1] at HN
        have hwt : decide (0 < (putR out).length) = decide (0 < out.length) := by rw [decide_eq_decide]; exact HPI.out
        have HN : Hid (fin = cleanG (out, decide (0 < (putR out).length)) (runesI ((bl s).drop (pos + f.2)))) := Lib.hid (by rw [hwt]; exact HN.out)
        clear hwt HPI b1
        generalize hm : (putR out).length = m at *
        have HM := Lib.hid hm
        clear hm
        by_cases hm0 : 0 < m
        all_goals
          first | rw [show decide (0 < m) = true from decide_eq_true hm0] at HN | rw [show decide (0 < m) = false from decide_eq_false hm0] at HN
          go_wp2_with fail
          refine HC.out.mono ?_
          rintro e w1 ⟨rfl, rfl⟩
          go_wp2_with fail
          refine HL.out.mono ?_
          rintro e w1 ⟨rfl, rfl⟩
          go_wp2_with fail
          go_roundw
          case rel => exact ⟨pos + f.2, out, _, rfl, hle, by omega, hbd2, hit2, hbw2, HN⟩
          case measure =>
            simp only [World.iterPos, hit2, hit]
            omega
      · rw [if_neg b1] at HN
        have HC := Lib.hid (blank_no (f.1 : Int) (wr.iterAt (w.heap.size + 1) s (pos + f.2)) (by simpa using b1))
        have HC2 := Lib.hid (control_any (f.1 : Int) (wr.iterAt (w.heap.size + 1) s (pos + f.2)))
        clear b1 HPI
        cases b2 : ctrlB (f.1 : Int) with
        | true =>
          rw [b2] at HN HC2
          simp only [if_true] at HN
          clear b2
          go_wp2_with fail
          refine HC.out.mono ?_
          rintro e w1 ⟨rfl, rfl⟩
          go_wp2_with fail
          refine HC2.out.mono ?_
          rintro e w1 ⟨rfl, rfl⟩
          go_wp2_with fail
          go_roundw
          case rel => exact ⟨pos + f.2, out, wait, rfl, hle, by omega, hbd2, hit2, hbw2, HN⟩
          case measure =>
            simp only [World.iterPos, hit2, hit]
            omega
        | false =>
          rw [b2] at HN HC2
          clear b2
          cases wait with
          | false =>
            simp only [if_false, Bool.false_eq_true] at HN
            have HW := Lib.hid (writeRune_k w.heap.size w.heap.size (putR out) (f.1 : Int) (by omega) (by omega) (wr.iterAt (w.heap.size + 1) s (pos + f.2)) hbd2 (by omega) (by omega))
            rw [← putR_snoc] at HW
            go_wp2_with fail
            refine HC.out.mono ?_
            rintro e w1 ⟨rfl, rfl⟩
            go_wp2_with fail
            refine HC2.out.mono ?_
            rintro e w1 ⟨rfl, rfl⟩
            go_wp2_with fail
            refine HW.out.mono ?_
            rintro e w1 ⟨rfl, hbd3, hb3, hk3⟩
            have hit3 := Lib.OthersKept.iter hk3 hit2 (by omega)
            go_wp2_with fail
            go_roundw
            case rel => exact ⟨pos + f.2, out ++ [(f.1 : Int)], false, rfl, hle, by simp; omega, hbd3, hit3, hbw2.trans hb3, HN⟩
            case measure =>
              simp only [World.iterPos, hit3, hit]
              omega
          | true =>
            simp only [if_false, if_true, Bool.false_eq_true] at HN
            have HB := Lib.hid (writeByte_k w.heap.size w.heap.size (putR out) 32 (wr.iterAt (w.heap.size + 1) s (pos + f.2)) hbd2 (by omega) (by omega))
            rw [← enc_32, ← putR_snoc] at HB
            have hpl2 := putR_len (out ++ [32])
            rw [List.length_append] at hpl2
            simp only [List.length_cons, List.length_nil] at hpl2
            go_wp2_with fail
            refine HC.out.mono ?_
            rintro e w1 ⟨rfl, rfl⟩
            go_wp2_with fail
            refine HC2.out.mono ?_
            rintro e w1 ⟨rfl, rfl⟩
            go_wp2_with fail
            refine HB.out.mono ?_
            rintro e w1 ⟨rfl, hbd3, hb3, hk3⟩
            have hit3 := Lib.OthersKept.iter hk3 hit2 (by omega)
            have hs3 := hb3.size
            have HW := Lib.hid (writeRune_k w.heap.size w.heap.size (putR (out ++ [32])) (f.1 : Int) (by omega) (by omega) w1 hbd3 (by omega) (by omega))
            rw [← putR_snoc] at HW
            go_wp2_with fail
            refine HW.out.mono ?_
            rintro e w2 ⟨rfl, hbd4, hb4, hk4⟩
            have hit4 := Lib.OthersKept.iter hk4 hit3 (by omega)
            go_wp2_with fail
            go_roundw
            case rel => exact ⟨pos + f.2, out ++ [32] ++ [(f.1 : Int)], false, rfl, hle, by simp; omega, hbd4, hit4, (hbw2.trans hb3).trans hb4, HN⟩
            case measure =>
              simp only [World.iterPos, hit4, hit]
              omega
    · have hnx : ∀ ty, (Instr.next (.pointer (some ⟨w.heap.size + 1, 0, none⟩)) true ty).run Try.prog wr = _ := fun ty => Lib.run_next_end_at wr (w.heap.size + 1) s pos ty hit hp
      have HE : Hid (fin = out) := Lib.hid (clean_end HR.out (by omega))
      have HC := Lib.hid (bString_k w.heap.size w.heap.size (putR out) wr hbd (by omega))
      go_wp2_with fail
      refine HC.out.mono ?_
      rintro e w1 ⟨rfl, _, hb1, _⟩
      go_wp2_with fail
      go_ret
      rw [HE.out]
      exact ⟨rfl, hbw.trans hb1⟩
end Go.Proofs.Ytleachcokgjocaa
