/-
  utf.Right.
-/
import Derived.Test.YtleachcokgjocabUtfE
namespace Go.Proofs.Ytleachcokgjocab
open Go.RowKit Go.Nst
set_option maxRecDepth 100000
set_option linter.unusedVariables false

theorem right_round {l : List UInt8} {pos : Nat} {tot : Bool} (h : tot = rightL (l.drop pos)) (hp : pos < l.length) : tot = (!((firstL (l.drop pos)).1 == 65533 && (firstL (l.drop pos)).2 == 1) && rightL (l.drop (pos + (firstL (l.drop pos)).2))) := by
  rw [h, rightL_step _ (drop_ne hp), List.drop_drop]

set_option maxHeartbeats 2000000 in
theorem right_any (s : ByteArray) (w : World) (hS : s.size ≤ 1000000) : Calls Try.prog 27 #[.string s] w fun e w' => e = .returned (.bool (rightL (bl s))) ∧ Below w.heap.size w w' := by
  have HT := Lib.hid (show rightL (bl s) = rightL ((bl s).drop 0) from rfl)
  have hbl := bl_len s
  generalize rightL (bl s) = tot at *
  go_enter Try.func27, Try.ntmps27
  go_wp2_with fail
  go_loopw [] (fun wr => ∃ (pos : Nat), pos ≤ s.size ∧ wr.heap[w.heap.size]? = some (.stringIter s pos) ∧ Below w.heap.size w wr ∧ Hid (tot = rightL ((bl s).drop pos))) (fun wr => s.size - wr.iterPos w.heap.size)
  case atStart =>
    refine ⟨0, by omega, ?_, bel_alloc (Below.refl _ _) _, HT⟩
    have := World.iter_heap w s 0
    simpa using this
  case round =>
    obtain ⟨pos, hps, hit, hbw, HR⟩ := hrel
    have hsz : w.heap.size < wr.heap.size := (Array.getElem?_eq_some_iff.1 hit).1
    by_cases hp : pos < s.size
    · have hnx : ∀ ty, (Instr.next (.pointer (some ⟨w.heap.size, 0, none⟩)) true ty).run Try.prog wr = _ := fun ty => Lib.run_next_any_at wr w.heap.size s pos ty hit hp
      have hw1 := firstL_width ((bl s).drop pos) (drop_ne (by omega))
      have HN := Lib.hid (right_round HR.out (by omega))
      have hle : pos + (firstL ((bl s).drop pos)).2 ≤ s.size := by have := hw1.2.2; rw [List.length_drop, hbl] at this; omega
      have HB := Lib.hid (first_bad ((bl s).drop pos))
      rw [decode_bl s pos hp] at hnx
      rw [← bl_from s pos] at HB
      rw [bl_from s pos] at HB
      generalize hf : firstL ((bl s).drop pos) = f at *
      have hit2 := Lib.iterAt_heap wr w.heap.size s pos (pos + f.2) hit
      have hbw2 := Lib.below_iterAt hbw (k := w.heap.size) (by omega) s (pos + f.2)
      by_cases c1 : f.1 = 65533
      · have d1 : ((f.1 : Int) == 65533) = true := by simp; omega
        have HP := Lib.hid (Try.strings_HasPrefix (s.extract pos s.size) ⟨#[239, 191, 189]⟩ (wr.iterAt w.heap.size s (pos + f.2)))
        have hpre : Lib.hasPrefix (s.extract pos s.size).data.toList [239, 191, 189] = !(f.2 == 1) := by
          have := HB.out c1
          rw [← bl_from s pos] at this
          exact this
        rw [show (ByteArray.mk #[239, 191, 189]).data.toList = [239, 191, 189] from rfl, hpre] at HP
        clear hpre HB
        by_cases c2 : f.2 = 1
        · have HN : Hid (tot = false) := Lib.hid (by rw [HN.out]; simp [c1, c2])
          rw [show (!(f.2 == 1)) = false by simp [c2]] at HP
          rw [c2] at HP hbw2
          go_wp2_with fail
          refine HP.out.mono ?_
          rintro e w1 ⟨rfl, rfl⟩
          go_wp2_with fail
          go_ret
          rw [HN.out]
          exact ⟨rfl, hbw2⟩
        · have HN : Hid (tot = rightL ((bl s).drop (pos + f.2))) := Lib.hid (by rw [HN.out]; simp [c1, c2])
          rw [show (!(f.2 == 1)) = true by simp [c2]] at HP
          go_wp2_with fail
          refine HP.out.mono ?_
          rintro e w1 ⟨rfl, rfl⟩
          go_wp2_with fail
          go_roundw
          case rel => exact ⟨pos + f.2, hle, hit2, hbw2, HN⟩
          case measure =>
            simp only [World.iterPos, hit2, hit]
            omega
      · have d1 : ((f.1 : Int) == 65533) = false := by simp; omega
        have HN : Hid (tot = rightL ((bl s).drop (pos + f.2))) := Lib.hid (by rw [HN.out]; simp [c1])
        go_wp2_with fail
        go_roundw
        case rel => exact ⟨pos + f.2, hle, hit2, hbw2, HN⟩
        case measure =>
          simp only [World.iterPos, hit2, hit]
          omega
    · have hnx : ∀ ty, (Instr.next (.pointer (some ⟨w.heap.size, 0, none⟩)) true ty).run Try.prog wr = _ := fun ty => Lib.run_next_end_at wr w.heap.size s pos ty hit hp
      have HE : Hid (tot = true) := Lib.hid (by rw [HR.out, List.drop_of_length_le (by omega)]; rfl)
      go_wp2_with fail
      go_ret
      rw [HE.out]
      exact ⟨rfl, hbw⟩
end Go.Proofs.Ytleachcokgjocab
