/-
  The reference's Check of any event.
-/
import Derived.Test.YtchcedoaiihnmaaGreatDoorCdB1
import Derived.Test.YtchcedoaiihnmaaGreatDoorCdB2
import Derived.Test.YtchcedoaiihnmaaGreatDoorCdB3
import Derived.Test.YtchcedoaiihnmaaGreatDoorCdB4
import Derived.Test.YtchcedoaiihnmaaGreatDoorCdB5
namespace Go.Proofs.YtchcedoaiihnmaaGreatDoor
open Go.RowKit Go.Nst
set_option maxRecDepth 100000
set_option linter.unusedVariables false
set_option linter.unusedSimpArgs false

set_option maxHeartbeats 4000000 in
theorem refCheck_else (k a b n : Int) (s t u : List UInt8) (w : World) (hk : ¬ (1 ≤ k ∧ k ≤ 13)) : Calls Tryz.prog 7 #[.agg (evV k a b n s t u)] w fun e w' => e = .returned (.bool false) ∧ Below w.heap.size w w' := by
  have g1 : (k == 1) = false := by simp; omega
  have g2 : (k == 2) = false := by simp; omega
  have g3 : (k == 3) = false := by simp; omega
  have g4 : (k == 4) = false := by simp; omega
  have g5 : (k == 5) = false := by simp; omega
  have g6 : (k == 6) = false := by simp; omega
  have g7 : (k == 7) = false := by simp; omega
  have g8 : (k == 8) = false := by simp; omega
  have g9 : (k == 9) = false := by simp; omega
  have g10 : (k == 10) = false := by simp; omega
  have g11 : (k == 11) = false := by simp; omega
  have g12 : (k == 12) = false := by simp; omega
  have g13 : (k == 13) = false := by simp; omega
  clear hk
  unfold evV
  go_enter Tryz.func7, Tryz.ntmps7
  go_wp2_with fail
  (with_reducible refine (refId14_any a _).mono ?_)
  rintro e w1 ⟨rfl, rfl⟩
  generalize hia : idB a = ia at *
  have HIA := Lib.hid hia
  clear hia
  go_upto_region 3 with fail
  go_cut [5] (fun v wx => v = .bool (flagB n) ∧ wx = (w.alloc (.cells (evV k a b n s t u) 23)).alloc (.cells (evV k a 0 0 [] [] []) 23))
  case first =>
    by_cases hn0 : n = 0
    · have HF : Hid (flagB n = true) := Lib.hid (by unfold flagB; rw [hn0]; rfl)
      have e0 : (n == 0) = true := by simpa using hn0
      clear hn0
      go_wp2_with fail
      go_meet
      exact ⟨by rw [HF.out], rfl⟩
    · have HF : Hid (flagB n = (n == 1)) := Lib.hid (by unfold flagB; rw [show (n == 0) = false by simpa using hn0]; rfl)
      have e0 : (n == 0) = false := by simpa using hn0
      clear hn0
      go_wp2_with fail
      go_meet
      exact ⟨by rw [HF.out], rfl⟩
  case rest =>
    obtain ⟨rfl, rfl⟩ := hcut
    simp only [evV]
    generalize hfl : flagB n = fl at *
    have HFL := Lib.hid hfl
    clear hfl
    go_upto_region 4 with fail
    go_cut [6] (fun v wx => v = .bool (folderB b) ∧ wx = (w.alloc (.cells (evV k a b n s t u) 23)).alloc (.cells (evV k a 0 0 [] [] []) 23))
    case first =>
      by_cases hb0 : b = 0
      · have HF : Hid (folderB b = true) := Lib.hid (by unfold folderB; rw [hb0]; rfl)
        have e0 : (b == 0) = true := by simpa using hb0
        clear hb0
        go_wp2_with fail
        go_meet
        exact ⟨by rw [HF.out], rfl⟩
      · have HF : Hid (folderB b = idB b) := Lib.hid (by unfold folderB; rw [show (b == 0) = false by simpa using hb0]; rfl)
        have e0 : (b == 0) = false := by simpa using hb0
        clear hb0
        go_wp2_with fail
        (with_reducible refine (refId14_any b _).mono ?_)
        rintro e w1 ⟨rfl, rfl⟩
        go_wp2_with fail
        go_meet
        exact ⟨by rw [HF.out], rfl⟩
    case rest =>
      obtain ⟨rfl, rfl⟩ := hcut
      simp only [evV]
      generalize hff : folderB b = fo at *
      have HFF := Lib.hid hff
      clear hff
      go_wp2_with fail
      go_ret
      exact ⟨rfl, bel_alloc (bel_alloc (Below.refl w.heap.size w) _) _⟩
theorem refCheck_any (k a b n : Int) (s t u : List UInt8) (w : World) (hs : s.length ≤ 20000) (ht : t.length ≤ 20000) (hu : u.length ≤ 20000) : Calls Tryz.prog 7 #[.agg (evV k a b n s t u)] w fun e w' => e = .returned (.bool (evOK k a b n s t u)) ∧ Below w.heap.size w w' := by
  by_cases hk : 1 ≤ k ∧ k ≤ 13
  · rcases kind_cases k hk with rfl | rfl | rfl | rfl | rfl | rfl | rfl | rfl | rfl | rfl | rfl | rfl | rfl
    · rw [show evOK 1 a b n s t u = ((idB a && (folderB b && labelB s)) && sameB a b n s t u a b 0 s [] []) from by unfold evOK; rw [rightB_1]; rfl]
      exact refCheck_1 a b n s t u w hs ht hu
    · rw [show evOK 2 a b n s t u = (idB a && sameB a b n s t u a 0 0 [] [] []) from by unfold evOK; rw [rightB_2]; rfl]
      exact refCheck_2 a b n s t u w hs ht hu
    · rw [show evOK 3 a b n s t u = ((idB a && (folderB b && (neB s && (linkB s && titleB t)))) && sameB a b n s t u a b 0 s t []) from by unfold evOK; rw [rightB_3]; unfold placeB; simp only [Bool.and_assoc]; rfl]
      exact refCheck_3 a b n s t u w hs ht hu
    · rw [show evOK 4 a b n s t u = (idB a && sameB a b n s t u a 0 0 [] [] []) from by unfold evOK; rw [rightB_4]; rfl]
      exact refCheck_4 a b n s t u w hs ht hu
    · rw [show evOK 5 a b n s t u = ((idB a && titleB t) && sameB a b n s t u a 0 0 [] t []) from by unfold evOK; rw [rightB_5]; rfl]
      exact refCheck_5 a b n s t u w hs ht hu
    · rw [show evOK 6 a b n s t u = ((idB a && folderB b) && sameB a b n s t u a b 0 [] [] []) from by unfold evOK; rw [rightB_6]; rfl]
      exact refCheck_6 a b n s t u w hs ht hu
    · rw [show evOK 7 a b n s t u = ((idB a && (idB b && (mayM n && (neB s && (linkB s && (titleB t && linkB u)))))) && sameB a b n s t u a b n s t u) from by unfold evOK; rw [rightB_7]; unfold placeB; simp only [Bool.and_assoc]; rfl]
      exact refCheck_7 a b n s t u w hs ht hu
    · rw [show evOK 8 a b n s t u = ((idB a && flagB n) && sameB a b n s t u a 0 n [] [] []) from by unfold evOK; rw [rightB_8]; rfl]
      exact refCheck_8 a b n s t u w hs ht hu
    · rw [show evOK 9 a b n s t u = ((idB a && flagB n) && sameB a b n s t u a 0 n [] [] []) from by unfold evOK; rw [rightB_9]; rfl]
      exact refCheck_9 a b n s t u w hs ht hu
    · rw [show evOK 10 a b n s t u = ((idB a && (flagB n && tagB s)) && sameB a b n s t u a 0 n s [] []) from by unfold evOK; rw [rightB_10]; rfl]
      exact refCheck_10 a b n s t u w hs ht hu
    · rw [show evOK 11 a b n s t u = ((idB a && (labelB s && queryB t)) && sameB a b n s t u a 0 0 s t []) from by unfold evOK; rw [rightB_11]; rfl]
      exact refCheck_11 a b n s t u w hs ht hu
    · rw [show evOK 12 a b n s t u = (idB a && sameB a b n s t u a 0 0 [] [] []) from by unfold evOK; rw [rightB_12]; rfl]
      exact refCheck_12 a b n s t u w hs ht hu
    · rw [show evOK 13 a b n s t u = (mayM n && sameB a b n s t u 0 0 n [] [] []) from by unfold evOK; rw [rightB_13]; rfl]
      exact refCheck_13 a b n s t u w hs ht hu
  · rw [show evOK k a b n s t u = false from by unfold evOK; rw [rightB_else hk]; rfl]
    exact refCheck_else k a b n s t u w hk
end Go.Proofs.YtchcedoaiihnmaaGreatDoor
