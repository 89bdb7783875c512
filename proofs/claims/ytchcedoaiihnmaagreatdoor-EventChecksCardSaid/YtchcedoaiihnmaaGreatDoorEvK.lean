/-
  event.used: an event with nothing but what its kind uses
  event.Check
  event.Check: what is right
  Which fields a kind uses: the code's and the reference's; fields' places.
  code.fields: the places of an event's numbers and texts; event.Check for any event.
-/
import Derived.Test.YtchcedoaiihnmaaGreatDoorEvB
import Derived.RegionTactic
import Derived.ChangeAlike
import Derived.Test.YtchcedoaiihnmaaGreatDoorBas
import Derived.BigRegion
section
namespace Go.Proofs.YtchcedoaiihnmaaGreatDoor
open Go.RowKit Go.Nst
set_option maxRecDepth 100000
set_option linter.unusedVariables false
set_option linter.unusedSimpArgs false

def usedV (k a b n : Int) (s t u : List UInt8) : Array Value :=
  if k = 1 then evV k a b 0 s [] []
  else if k = 2 then evV k a 0 0 [] [] []
  else if k = 3 then evV k a b 0 s t []
  else if k = 4 then evV k a 0 0 [] [] []
  else if k = 5 then evV k a 0 0 [] t []
  else if k = 6 then evV k a b 0 [] [] []
  else if k = 7 then evV k a b n s t u
  else if k = 8 then evV k a 0 n [] [] []
  else if k = 9 then evV k a 0 n [] [] []
  else if k = 10 then evV k a 0 n s [] []
  else if k = 11 then evV k a 0 0 s t []
  else if k = 12 then evV k a 0 0 [] [] []
  else if k = 13 then evV k 0 0 n [] [] []
  else evV k a 0 0 [] [] []
theorem usedV_1 (a b n : Int) (s t u : List UInt8) : usedV 1 a b n s t u = evV 1 a b 0 s [] [] := rfl
theorem usedV_2 (a b n : Int) (s t u : List UInt8) : usedV 2 a b n s t u = evV 2 a 0 0 [] [] [] := rfl
theorem usedV_3 (a b n : Int) (s t u : List UInt8) : usedV 3 a b n s t u = evV 3 a b 0 s t [] := rfl
theorem usedV_4 (a b n : Int) (s t u : List UInt8) : usedV 4 a b n s t u = evV 4 a 0 0 [] [] [] := rfl
theorem usedV_5 (a b n : Int) (s t u : List UInt8) : usedV 5 a b n s t u = evV 5 a 0 0 [] t [] := rfl
theorem usedV_6 (a b n : Int) (s t u : List UInt8) : usedV 6 a b n s t u = evV 6 a b 0 [] [] [] := rfl
theorem usedV_7 (a b n : Int) (s t u : List UInt8) : usedV 7 a b n s t u = evV 7 a b n s t u := rfl
theorem usedV_8 (a b n : Int) (s t u : List UInt8) : usedV 8 a b n s t u = evV 8 a 0 n [] [] [] := rfl
theorem usedV_9 (a b n : Int) (s t u : List UInt8) : usedV 9 a b n s t u = evV 9 a 0 n [] [] [] := rfl
theorem usedV_10 (a b n : Int) (s t u : List UInt8) : usedV 10 a b n s t u = evV 10 a 0 n s [] [] := rfl
theorem usedV_11 (a b n : Int) (s t u : List UInt8) : usedV 11 a b n s t u = evV 11 a 0 0 s t [] := rfl
theorem usedV_12 (a b n : Int) (s t u : List UInt8) : usedV 12 a b n s t u = evV 12 a 0 0 [] [] [] := rfl
theorem usedV_13 (a b n : Int) (s t u : List UInt8) : usedV 13 a b n s t u = evV 13 0 0 n [] [] [] := rfl
set_option maxHeartbeats 4000000 in
theorem used_1 (a b n : Int) (s t u : List UInt8) (w : World) : Calls Tryz.prog 28 #[.agg (evV 1 a b n s t u)] w fun e w' => e = .returned (.agg (usedV 1 a b n s t u)) ∧ Below w.heap.size w w' := by
  rw [usedV_1]
  unfold evV
  go_enter Tryz.func28, Tryz.ntmps28
  go_wp2_with fail
  go_region
  go_wp2_with fail
  exact bodyPost_ret (v := .agg #[.int .i64 1, .int .i64 a, .int .i64 b, .int .i64 0, .string ⟨(s : List UInt8).toArray⟩, .string ⟨([] : List UInt8).toArray⟩, .string ⟨([] : List UInt8).toArray⟩]) (by simp [results, Tryz.results28, go_sem]) rfl ⟨rfl, by first | exact bel_alloc (bel_alloc (bel_alloc (Below.refl _ _) _) _) _ | exact (bel_alloc (bel_alloc (bel_alloc (Below.refl _ _) _) _) _).drew⟩
set_option maxHeartbeats 4000000 in
theorem used_2 (a b n : Int) (s t u : List UInt8) (w : World) : Calls Tryz.prog 28 #[.agg (evV 2 a b n s t u)] w fun e w' => e = .returned (.agg (usedV 2 a b n s t u)) ∧ Below w.heap.size w w' := by
  rw [usedV_2]
  unfold evV
  go_enter Tryz.func28, Tryz.ntmps28
  go_wp2_with fail
  exact bodyPost_ret (v := .agg #[.int .i64 2, .int .i64 a, .int .i64 0, .int .i64 0, .string ⟨([] : List UInt8).toArray⟩, .string ⟨([] : List UInt8).toArray⟩, .string ⟨([] : List UInt8).toArray⟩]) (by simp [results, Tryz.results28, go_sem]) rfl ⟨rfl, by first | exact bel_alloc (bel_alloc (bel_alloc (Below.refl _ _) _) _) _ | exact (bel_alloc (bel_alloc (bel_alloc (Below.refl _ _) _) _) _).drew⟩
set_option maxHeartbeats 4000000 in
theorem used_3 (a b n : Int) (s t u : List UInt8) (w : World) : Calls Tryz.prog 28 #[.agg (evV 3 a b n s t u)] w fun e w' => e = .returned (.agg (usedV 3 a b n s t u)) ∧ Below w.heap.size w w' := by
  rw [usedV_3]
  unfold evV
  go_enter Tryz.func28, Tryz.ntmps28
  go_wp2_with fail
  go_region
  go_wp2_with fail
  exact bodyPost_ret (v := .agg #[.int .i64 3, .int .i64 a, .int .i64 b, .int .i64 0, .string ⟨(s : List UInt8).toArray⟩, .string ⟨(t : List UInt8).toArray⟩, .string ⟨([] : List UInt8).toArray⟩]) (by simp [results, Tryz.results28, go_sem]) rfl ⟨rfl, by first | exact bel_alloc (bel_alloc (bel_alloc (Below.refl _ _) _) _) _ | exact (bel_alloc (bel_alloc (bel_alloc (Below.refl _ _) _) _) _).drew⟩
set_option maxHeartbeats 4000000 in
theorem used_4 (a b n : Int) (s t u : List UInt8) (w : World) : Calls Tryz.prog 28 #[.agg (evV 4 a b n s t u)] w fun e w' => e = .returned (.agg (usedV 4 a b n s t u)) ∧ Below w.heap.size w w' := by
  rw [usedV_4]
  unfold evV
  go_enter Tryz.func28, Tryz.ntmps28
  go_wp2_with fail
  exact bodyPost_ret (v := .agg #[.int .i64 4, .int .i64 a, .int .i64 0, .int .i64 0, .string ⟨([] : List UInt8).toArray⟩, .string ⟨([] : List UInt8).toArray⟩, .string ⟨([] : List UInt8).toArray⟩]) (by simp [results, Tryz.results28, go_sem]) rfl ⟨rfl, by first | exact bel_alloc (bel_alloc (bel_alloc (Below.refl _ _) _) _) _ | exact (bel_alloc (bel_alloc (bel_alloc (Below.refl _ _) _) _) _).drew⟩
set_option maxHeartbeats 4000000 in
theorem used_5 (a b n : Int) (s t u : List UInt8) (w : World) : Calls Tryz.prog 28 #[.agg (evV 5 a b n s t u)] w fun e w' => e = .returned (.agg (usedV 5 a b n s t u)) ∧ Below w.heap.size w w' := by
  rw [usedV_5]
  unfold evV
  go_enter Tryz.func28, Tryz.ntmps28
  go_wp2_with fail
  exact bodyPost_ret (v := .agg #[.int .i64 5, .int .i64 a, .int .i64 0, .int .i64 0, .string ⟨([] : List UInt8).toArray⟩, .string ⟨(t : List UInt8).toArray⟩, .string ⟨([] : List UInt8).toArray⟩]) (by simp [results, Tryz.results28, go_sem]) rfl ⟨rfl, by first | exact bel_alloc (bel_alloc (bel_alloc (Below.refl _ _) _) _) _ | exact (bel_alloc (bel_alloc (bel_alloc (Below.refl _ _) _) _) _).drew⟩
set_option maxHeartbeats 4000000 in
theorem used_6 (a b n : Int) (s t u : List UInt8) (w : World) : Calls Tryz.prog 28 #[.agg (evV 6 a b n s t u)] w fun e w' => e = .returned (.agg (usedV 6 a b n s t u)) ∧ Below w.heap.size w w' := by
  rw [usedV_6]
  unfold evV
  go_enter Tryz.func28, Tryz.ntmps28
  go_wp2_with fail
  exact bodyPost_ret (v := .agg #[.int .i64 6, .int .i64 a, .int .i64 b, .int .i64 0, .string ⟨([] : List UInt8).toArray⟩, .string ⟨([] : List UInt8).toArray⟩, .string ⟨([] : List UInt8).toArray⟩]) (by simp [results, Tryz.results28, go_sem]) rfl ⟨rfl, by first | exact bel_alloc (bel_alloc (bel_alloc (Below.refl _ _) _) _) _ | exact (bel_alloc (bel_alloc (bel_alloc (Below.refl _ _) _) _) _).drew⟩
set_option maxHeartbeats 4000000 in
theorem used_7 (a b n : Int) (s t u : List UInt8) (w : World) : Calls Tryz.prog 28 #[.agg (evV 7 a b n s t u)] w fun e w' => e = .returned (.agg (usedV 7 a b n s t u)) ∧ Below w.heap.size w w' := by
  rw [usedV_7]
  unfold evV
  go_enter Tryz.func28, Tryz.ntmps28
  go_wp2_with fail
  exact bodyPost_ret (v := .agg #[.int .i64 7, .int .i64 a, .int .i64 b, .int .i64 n, .string ⟨(s : List UInt8).toArray⟩, .string ⟨(t : List UInt8).toArray⟩, .string ⟨(u : List UInt8).toArray⟩]) (by simp [results, Tryz.results28, go_sem]) rfl ⟨rfl, by first | exact bel_alloc (bel_alloc (bel_alloc (Below.refl _ _) _) _) _ | exact (bel_alloc (bel_alloc (bel_alloc (Below.refl _ _) _) _) _).drew⟩
set_option maxHeartbeats 4000000 in
theorem used_8 (a b n : Int) (s t u : List UInt8) (w : World) : Calls Tryz.prog 28 #[.agg (evV 8 a b n s t u)] w fun e w' => e = .returned (.agg (usedV 8 a b n s t u)) ∧ Below w.heap.size w w' := by
  rw [usedV_8]
  unfold evV
  go_enter Tryz.func28, Tryz.ntmps28
  go_wp2_with fail
  exact bodyPost_ret (v := .agg #[.int .i64 8, .int .i64 a, .int .i64 0, .int .i64 n, .string ⟨([] : List UInt8).toArray⟩, .string ⟨([] : List UInt8).toArray⟩, .string ⟨([] : List UInt8).toArray⟩]) (by simp [results, Tryz.results28, go_sem]) rfl ⟨rfl, by first | exact bel_alloc (bel_alloc (bel_alloc (Below.refl _ _) _) _) _ | exact (bel_alloc (bel_alloc (bel_alloc (Below.refl _ _) _) _) _).drew⟩
set_option maxHeartbeats 4000000 in
theorem used_9 (a b n : Int) (s t u : List UInt8) (w : World) : Calls Tryz.prog 28 #[.agg (evV 9 a b n s t u)] w fun e w' => e = .returned (.agg (usedV 9 a b n s t u)) ∧ Below w.heap.size w w' := by
  rw [usedV_9]
  unfold evV
  go_enter Tryz.func28, Tryz.ntmps28
  go_wp2_with fail
  exact bodyPost_ret (v := .agg #[.int .i64 9, .int .i64 a, .int .i64 0, .int .i64 n, .string ⟨([] : List UInt8).toArray⟩, .string ⟨([] : List UInt8).toArray⟩, .string ⟨([] : List UInt8).toArray⟩]) (by simp [results, Tryz.results28, go_sem]) rfl ⟨rfl, by first | exact bel_alloc (bel_alloc (bel_alloc (Below.refl _ _) _) _) _ | exact (bel_alloc (bel_alloc (bel_alloc (Below.refl _ _) _) _) _).drew⟩
set_option maxHeartbeats 4000000 in
theorem used_10 (a b n : Int) (s t u : List UInt8) (w : World) : Calls Tryz.prog 28 #[.agg (evV 10 a b n s t u)] w fun e w' => e = .returned (.agg (usedV 10 a b n s t u)) ∧ Below w.heap.size w w' := by
  rw [usedV_10]
  unfold evV
  go_enter Tryz.func28, Tryz.ntmps28
  go_wp2_with fail
  go_region
  go_wp2_with fail
  exact bodyPost_ret (v := .agg #[.int .i64 10, .int .i64 a, .int .i64 0, .int .i64 n, .string ⟨(s : List UInt8).toArray⟩, .string ⟨([] : List UInt8).toArray⟩, .string ⟨([] : List UInt8).toArray⟩]) (by simp [results, Tryz.results28, go_sem]) rfl ⟨rfl, by first | exact bel_alloc (bel_alloc (bel_alloc (Below.refl _ _) _) _) _ | exact (bel_alloc (bel_alloc (bel_alloc (Below.refl _ _) _) _) _).drew⟩
set_option maxHeartbeats 4000000 in
theorem used_11 (a b n : Int) (s t u : List UInt8) (w : World) : Calls Tryz.prog 28 #[.agg (evV 11 a b n s t u)] w fun e w' => e = .returned (.agg (usedV 11 a b n s t u)) ∧ Below w.heap.size w w' := by
  rw [usedV_11]
  unfold evV
  go_enter Tryz.func28, Tryz.ntmps28
  go_wp2_with fail
  go_region
  go_wp2_with fail
  exact bodyPost_ret (v := .agg #[.int .i64 11, .int .i64 a, .int .i64 0, .int .i64 0, .string ⟨(s : List UInt8).toArray⟩, .string ⟨(t : List UInt8).toArray⟩, .string ⟨([] : List UInt8).toArray⟩]) (by simp [results, Tryz.results28, go_sem]) rfl ⟨rfl, by first | exact bel_alloc (bel_alloc (bel_alloc (Below.refl _ _) _) _) _ | exact (bel_alloc (bel_alloc (bel_alloc (Below.refl _ _) _) _) _).drew⟩
set_option maxHeartbeats 4000000 in
theorem used_12 (a b n : Int) (s t u : List UInt8) (w : World) : Calls Tryz.prog 28 #[.agg (evV 12 a b n s t u)] w fun e w' => e = .returned (.agg (usedV 12 a b n s t u)) ∧ Below w.heap.size w w' := by
  rw [usedV_12]
  unfold evV
  go_enter Tryz.func28, Tryz.ntmps28
  go_wp2_with fail
  exact bodyPost_ret (v := .agg #[.int .i64 12, .int .i64 a, .int .i64 0, .int .i64 0, .string ⟨([] : List UInt8).toArray⟩, .string ⟨([] : List UInt8).toArray⟩, .string ⟨([] : List UInt8).toArray⟩]) (by simp [results, Tryz.results28, go_sem]) rfl ⟨rfl, by first | exact bel_alloc (bel_alloc (bel_alloc (Below.refl _ _) _) _) _ | exact (bel_alloc (bel_alloc (bel_alloc (Below.refl _ _) _) _) _).drew⟩
set_option maxHeartbeats 4000000 in
theorem used_13 (a b n : Int) (s t u : List UInt8) (w : World) : Calls Tryz.prog 28 #[.agg (evV 13 a b n s t u)] w fun e w' => e = .returned (.agg (usedV 13 a b n s t u)) ∧ Below w.heap.size w w' := by
  rw [usedV_13]
  unfold evV
  go_enter Tryz.func28, Tryz.ntmps28
  go_wp2_with fail
  go_region
  go_wp2_with fail
  exact bodyPost_ret (v := .agg #[.int .i64 13, .int .i64 0, .int .i64 0, .int .i64 n, .string ⟨([] : List UInt8).toArray⟩, .string ⟨([] : List UInt8).toArray⟩, .string ⟨([] : List UInt8).toArray⟩]) (by simp [results, Tryz.results28, go_sem]) rfl ⟨rfl, by first | exact bel_alloc (bel_alloc (bel_alloc (Below.refl _ _) _) _) _ | exact (bel_alloc (bel_alloc (bel_alloc (Below.refl _ _) _) _) _).drew⟩
theorem usedV_else {k : Int} (hk : ¬ (1 ≤ k ∧ k ≤ 13)) (a b n : Int) (s t u : List UInt8) : usedV k a b n s t u = evV k a 0 0 [] [] [] := by
  unfold usedV
  rw [if_neg (by omega), if_neg (by omega), if_neg (by omega), if_neg (by omega), if_neg (by omega), if_neg (by omega), if_neg (by omega), if_neg (by omega), if_neg (by omega), if_neg (by omega), if_neg (by omega), if_neg (by omega), if_neg (by omega)]
set_option maxHeartbeats 4000000 in
theorem used_else (k a b n : Int) (s t u : List UInt8) (w : World) (hk : ¬ (1 ≤ k ∧ k ≤ 13)) : Calls Tryz.prog 28 #[.agg (evV k a b n s t u)] w fun e w' => e = .returned (.agg (usedV k a b n s t u)) ∧ Below w.heap.size w w' := by
  rw [usedV_else hk]
  have g1 : (k == 1) = false := by simp; omega
  have g2 : (k == 2) = false := by simp; omega
  have g3 : (k == 3) = false := by simp; omega
  have g4 : (k == 4) = false := by simp; omega
  have g5 : (k == 5) = false := by simp; omega
  have g6 : (k == 6) = false := by simp; omega
  have g7 : (k == 7) = false := by simp; omega
  have g8 : (k == 8) = false := by simp; omega
  have g9 : (k == 9) = false := by simp; omega
  have g10 : (k == 10) = false := by simp; omega
  have g11 : (k == 11) = false := by simp; omega
  have g12 : (k == 12) = false := by simp; omega
  have g13 : (k == 13) = false := by simp; omega
  clear hk
  unfold evV
  go_enter Tryz.func28, Tryz.ntmps28
  go_wp2_with fail
  exact bodyPost_ret (v := .agg #[.int .i64 k, .int .i64 a, .int .i64 0, .int .i64 0, .string ⟨([] : List UInt8).toArray⟩, .string ⟨([] : List UInt8).toArray⟩, .string ⟨([] : List UInt8).toArray⟩]) (by simp [results, Tryz.results28, go_sem]) rfl ⟨rfl, bel_alloc (bel_alloc (bel_alloc (Below.refl _ _) _) _) _⟩
theorem used14_any (k a b n : Int) (s t u : List UInt8) (w : World) : Calls Tryz.prog 28 #[.agg (evV k a b n s t u)] w fun e w' => e = .returned (.agg (usedV k a b n s t u)) ∧ Below w.heap.size w w' := by
  by_cases hk : 1 ≤ k ∧ k ≤ 13
  · obtain rfl | rfl | rfl | rfl | rfl | rfl | rfl | rfl | rfl | rfl | rfl | rfl | rfl : k = 1 ∨ k = 2 ∨ k = 3 ∨ k = 4 ∨ k = 5 ∨ k = 6 ∨ k = 7 ∨ k = 8 ∨ k = 9 ∨ k = 10 ∨ k = 11 ∨ k = 12 ∨ k = 13 := by omega
    · exact used_1 a b n s t u w
    · exact used_2 a b n s t u w
    · exact used_3 a b n s t u w
    · exact used_4 a b n s t u w
    · exact used_5 a b n s t u w
    · exact used_6 a b n s t u w
    · exact used_7 a b n s t u w
    · exact used_8 a b n s t u w
    · exact used_9 a b n s t u w
    · exact used_10 a b n s t u w
    · exact used_11 a b n s t u w
    · exact used_12 a b n s t u w
    · exact used_13 a b n s t u w
  · exact used_else k a b n s t u w hk
end Go.Proofs.YtchcedoaiihnmaaGreatDoor
end
section
namespace Go.Proofs.YtchcedoaiihnmaaGreatDoor
open Go.RowKit Go.Nst
set_option maxRecDepth 100000
set_option linter.unusedVariables false
set_option linter.unusedSimpArgs false

def IsEv (k : Int) (v : Array Value) : Prop := ∃ a' b' n' s' t' u', v = evV k a' b' n' s' t' u'
theorem isEv_ite {k : Int} {c : Prop} [Decidable c] {x y : Array Value} (hx : IsEv k x) (hy : IsEv k y) : IsEv k (if c then x else y) := by
  by_cases hc : c
  · rw [if_pos hc]; exact hx
  · rw [if_neg hc]; exact hy
theorem usedV_ev (k a b n : Int) (s t u : List UInt8) : ∃ a' b' n' s' t' u', usedV k a b n s t u = evV k a' b' n' s' t' u' := by
  unfold usedV
  show IsEv k _
  repeat (first | exact ⟨_, _, _, _, _, _, rfl⟩ | refine isEv_ite ⟨_, _, _, _, _, _, rfl⟩ ?_)
def sameB (a b n : Int) (s t u : List UInt8) (a' b' n' : Int) (s' t' u' : List UInt8) : Bool := a' == a && (b' == b && (n' == n && (s' == s && (t' == t && u' == u))))
set_option maxHeartbeats 4000000 in
theorem check_no (k a b n : Int) (s t u : List UInt8) (w : World) (hs : s.length ≤ 20000) (ht : t.length ≤ 20000) (hu : u.length ≤ 20000) (hr : rightB k a b n s t u = false) : Calls Tryz.prog 10 #[.agg (evV k a b n s t u)] w fun e w' => e = .returned (.int .i64 140) ∧ Below w.heap.size w w' := by
  have HR := Lib.hid (fun W => right14_any k a b n s t u W hs ht hu)
  rw [hr] at HR
  clear hr
  unfold evV at *
  go_enter Tryz.func10, Tryz.ntmps10
  go_wp2_with fail
  refine wp_region_seq (by kernel_rfl) [(0, true), (1, false), (2, true), (3, true), (4, true), (6, true), (5, false), (7, true), (8, true)] (by kernel_rfl) rfl (by kernel_rfl) ?_
  intro w2 hb2
  have B0 := bel_alloc (Below.refl w.heap.size w) (.cells #[.int .i64 k, .int .i64 a, .int .i64 b, .int .i64 n, .string ⟨s.toArray⟩, .string ⟨t.toArray⟩, .string ⟨u.toArray⟩] 23)
  have c0 : ∀ W, Below w2.heap.size w2 W → W.cell? ⟨w.heap.size, 0, none⟩ = some (.int .i64 k) := fun W hW => ((bel_step hb2 hW).cell (p := ⟨w.heap.size, 0, none⟩) (by simp)).trans (by simp)
  have c1 : ∀ W, Below w2.heap.size w2 W → W.cell? ⟨w.heap.size, 1, none⟩ = some (.int .i64 a) := fun W hW => ((bel_step hb2 hW).cell (p := ⟨w.heap.size, 1, none⟩) (by simp)).trans (by simp)
  have c2 : ∀ W, Below w2.heap.size w2 W → W.cell? ⟨w.heap.size, 2, none⟩ = some (.int .i64 b) := fun W hW => ((bel_step hb2 hW).cell (p := ⟨w.heap.size, 2, none⟩) (by simp)).trans (by simp)
  have c3 : ∀ W, Below w2.heap.size w2 W → W.cell? ⟨w.heap.size, 3, none⟩ = some (.int .i64 n) := fun W hW => ((bel_step hb2 hW).cell (p := ⟨w.heap.size, 3, none⟩) (by simp)).trans (by simp)
  have c4 : ∀ W, Below w2.heap.size w2 W → W.cell? ⟨w.heap.size, 4, none⟩ = some (.string ⟨s.toArray⟩) := fun W hW => ((bel_step hb2 hW).cell (p := ⟨w.heap.size, 4, none⟩) (by simp)).trans (by simp)
  have c5 : ∀ W, Below w2.heap.size w2 W → W.cell? ⟨w.heap.size, 5, none⟩ = some (.string ⟨t.toArray⟩) := fun W hW => ((bel_step hb2 hW).cell (p := ⟨w.heap.size, 5, none⟩) (by simp)).trans (by simp)
  have c6 : ∀ W, Below w2.heap.size w2 W → W.cell? ⟨w.heap.size, 6, none⟩ = some (.string ⟨u.toArray⟩) := fun W hW => ((bel_step hb2 hW).cell (p := ⟨w.heap.size, 6, none⟩) (by simp)).trans (by simp)
  iterate 1 (refine wpSeq_take (o := ⟨_, _, _, _, _, _⟩) (v := ?_) rfl rfl ?_ ?_; rotate_left; (focus (intro W hW; go_simp; first | done | with_reducible rfl)); simp only [Act.put, List.setIfInBounds_toArray, List.set_cons_zero, List.set_cons_succ])
  refine wpSeq_exec (o := ⟨_, _, _, _, _, _⟩) rfl rfl (fun K hK => ?_)
  go_simp
  (with_reducible refine (HR.out w2).mono ?_)
  rintro e w7 ⟨rfl, hb7⟩
  go_wp2_with fail
  refine hK _ _ hb7 ?_
  clear hK K
  have S7 := bel_step hb2 hb7
  iterate 2 (refine wpSeq_take (o := ⟨_, _, _, _, _, _⟩) (v := ?_) rfl rfl ?_ ?_; rotate_left; (focus (intro W hW; go_simp; first | done | with_reducible rfl)); simp only [Act.put, List.setIfInBounds_toArray, List.set_cons_zero, List.set_cons_succ])
  iterate 2 (refine wpSeq_skip (o := ⟨_, _, _, _, _, _⟩) rfl rfl ?_; simp only [Act.put, List.setIfInBounds_toArray, List.set_cons_zero, List.set_cons_succ])
  refine wpSeq_none (o := ⟨_, _, _, _, _, _⟩) rfl rfl ?_
  iterate 1 (refine wpSeq_skip (o := ⟨_, _, _, _, _, _⟩) rfl rfl ?_; simp only [Act.put, List.setIfInBounds_toArray, List.set_cons_zero, List.set_cons_succ])
  iterate 1 (refine wpSeq_take (o := ⟨_, _, _, _, _, _⟩) (v := ?_) rfl rfl ?_ ?_; rotate_left; (focus (intro W hW; go_simp; first | done | with_reducible rfl)); simp only [Act.put, List.setIfInBounds_toArray, List.set_cons_zero, List.set_cons_succ])
  refine wpSeq_nil ?_
  go_wp2_with fail
  go_ret
  exact ⟨rfl, bel_step B0 S7⟩
end Go.Proofs.YtchcedoaiihnmaaGreatDoor
end
section
namespace Go.Proofs.YtchcedoaiihnmaaGreatDoor
open Go.RowKit Go.Nst
set_option maxRecDepth 100000
set_option linter.unusedVariables false
set_option linter.unusedSimpArgs false

set_option maxHeartbeats 4000000 in
theorem check_yes (k a b n : Int) (s t u : List UInt8) (w : World) (hs : s.length ≤ 20000) (ht : t.length ≤ 20000) (hu : u.length ≤ 20000) (hr : rightB k a b n s t u = true) {a' b' n' : Int} {s' t' u' : List UInt8} (hx : usedV k a b n s t u = evV k a' b' n' s' t' u') : Calls Tryz.prog 10 #[.agg (evV k a b n s t u)] w fun e w' => e = .returned (.int .i64 (if sameB a b n s t u a' b' n' s' t' u' then 0 else 140)) ∧ Below w.heap.size w w' := by
  have HR := Lib.hid (fun W => right14_any k a b n s t u W hs ht hu)
  rw [hr] at HR
  clear hr
  have HU := Lib.hid (fun W => used14_any k a b n s t u W)
  rw [hx] at HU
  clear hx
  unfold evV at *
  generalize hres : (if sameB a b n s t u a' b' n' s' t' u' = true then (0 : Int) else 140) = res
  have HRES := Lib.hid hres
  clear hres
  go_enter Tryz.func10, Tryz.ntmps10
  go_wp2_with fail
  refine wp_region_seq (by kernel_rfl) [(0, true), (1, false), (2, true), (3, true), (4, true), (6, true), (5, false), (7, true), (8, true)] (by kernel_rfl) rfl (by kernel_rfl) ?_
  intro w2 hb2
  have B0 := bel_alloc (Below.refl w.heap.size w) (.cells #[.int .i64 k, .int .i64 a, .int .i64 b, .int .i64 n, .string ⟨s.toArray⟩, .string ⟨t.toArray⟩, .string ⟨u.toArray⟩] 23)
  have c0 : ∀ W, Below w2.heap.size w2 W → W.cell? ⟨w.heap.size, 0, none⟩ = some (.int .i64 k) := fun W hW => ((bel_step hb2 hW).cell (p := ⟨w.heap.size, 0, none⟩) (by simp)).trans (by simp)
  have c1 : ∀ W, Below w2.heap.size w2 W → W.cell? ⟨w.heap.size, 1, none⟩ = some (.int .i64 a) := fun W hW => ((bel_step hb2 hW).cell (p := ⟨w.heap.size, 1, none⟩) (by simp)).trans (by simp)
  have c2 : ∀ W, Below w2.heap.size w2 W → W.cell? ⟨w.heap.size, 2, none⟩ = some (.int .i64 b) := fun W hW => ((bel_step hb2 hW).cell (p := ⟨w.heap.size, 2, none⟩) (by simp)).trans (by simp)
  have c3 : ∀ W, Below w2.heap.size w2 W → W.cell? ⟨w.heap.size, 3, none⟩ = some (.int .i64 n) := fun W hW => ((bel_step hb2 hW).cell (p := ⟨w.heap.size, 3, none⟩) (by simp)).trans (by simp)
  have c4 : ∀ W, Below w2.heap.size w2 W → W.cell? ⟨w.heap.size, 4, none⟩ = some (.string ⟨s.toArray⟩) := fun W hW => ((bel_step hb2 hW).cell (p := ⟨w.heap.size, 4, none⟩) (by simp)).trans (by simp)
  have c5 : ∀ W, Below w2.heap.size w2 W → W.cell? ⟨w.heap.size, 5, none⟩ = some (.string ⟨t.toArray⟩) := fun W hW => ((bel_step hb2 hW).cell (p := ⟨w.heap.size, 5, none⟩) (by simp)).trans (by simp)
  have c6 : ∀ W, Below w2.heap.size w2 W → W.cell? ⟨w.heap.size, 6, none⟩ = some (.string ⟨u.toArray⟩) := fun W hW => ((bel_step hb2 hW).cell (p := ⟨w.heap.size, 6, none⟩) (by simp)).trans (by simp)
  iterate 1 (refine wpSeq_take (o := ⟨_, _, _, _, _, _⟩) (v := ?_) rfl rfl ?_ ?_; rotate_left; (focus (intro W hW; go_simp; first | done | with_reducible rfl)); simp only [Act.put, List.setIfInBounds_toArray, List.set_cons_zero, List.set_cons_succ])
  refine wpSeq_exec (o := ⟨_, _, _, _, _, _⟩) rfl rfl (fun K hK => ?_)
  go_simp
  (with_reducible refine (HR.out w2).mono ?_)
  rintro e w7 ⟨rfl, hb7⟩
  go_wp2_with fail
  refine hK _ _ hb7 ?_
  clear hK K
  have S7 := bel_step hb2 hb7
  have tr7 : ∀ W, Below w7.heap.size w7 W → Below w2.heap.size w2 W := fun W h => bel_step hb7 h
  iterate 4 (refine wpSeq_take (o := ⟨_, _, _, _, _, _⟩) (v := ?_) rfl rfl ?_ ?_; rotate_left; (focus (intro W hW; go_simp; first | done | with_reducible rfl)); simp only [Act.put, List.setIfInBounds_toArray, List.set_cons_zero, List.set_cons_succ])
  refine wpSeq_exec (o := ⟨_, _, _, _, _, _⟩) rfl rfl (fun K hK => ?_)
  go_simp
  (with_reducible refine (HU.out w7).mono ?_)
  rintro e w8 ⟨rfl, hb8⟩
  go_wp2_with fail
  refine hK _ _ hb8 ?_
  clear hK K
  have S8 := bel_step S7 hb8
  have HS : ∀ W : World, (if a' = a then (if b' = b then (if n' = n then (if s' = s then (if t' = t then (if u' = u then Result.ok (Next.value (Value.bool false)) W else Result.ok (Next.value (Value.bool true)) W) else Result.ok (Next.value (Value.bool true)) W) else Result.ok (Next.value (Value.bool true)) W) else Result.ok (Next.value (Value.bool true)) W) else Result.ok (Next.value (Value.bool true)) W) else Result.ok (Next.value (Value.bool true)) W) = Result.ok (Next.value (Value.bool (!sameB a b n s t u a' b' n' s' t' u'))) W := by
    intro W
    unfold sameB
    by_cases e1 : a' = a <;> by_cases e2 : b' = b <;> by_cases e3 : n' = n <;> by_cases e4 : s' = s <;> by_cases e5 : t' = t <;> by_cases e6 : u' = u <;> simp [e1, e2, e3, e4, e5, e6]
  refine wpSeq_take (o := ⟨_, _, _, _, _, _⟩) (v := .bool (!sameB a b n s t u a' b' n' s' t' u')) rfl rfl ?_ ?_
  · intro W hW
    go_simp
  simp only [Act.put, List.setIfInBounds_toArray, List.set_cons_zero, List.set_cons_succ]
  clear HS
  generalize sameB a b n s t u a' b' n' s' t' u' = z at *
  cases z with
  | false =>
    iterate 1 (refine wpSeq_take (o := ⟨_, _, _, _, _, _⟩) (v := ?_) rfl rfl ?_ ?_; rotate_left; (focus (intro W hW; go_simp; first | done | with_reducible rfl)); simp only [Act.put, List.setIfInBounds_toArray, List.set_cons_zero, List.set_cons_succ])
    refine wpSeq_nil ?_
    go_wp2_with fail
    go_ret
    exact ⟨by rw [← HRES.out]; rfl, bel_step B0 S8⟩
  | true =>
    iterate 1 (refine wpSeq_take (o := ⟨_, _, _, _, _, _⟩) (v := ?_) rfl rfl ?_ ?_; rotate_left; (focus (intro W hW; go_simp; first | done | with_reducible rfl)); simp only [Act.put, List.setIfInBounds_toArray, List.set_cons_zero, List.set_cons_succ])
    refine wpSeq_nil ?_
    go_wp2_with fail
    go_ret
    exact ⟨by rw [← HRES.out]; rfl, bel_step B0 S8⟩
end Go.Proofs.YtchcedoaiihnmaaGreatDoor
end
section
namespace Go.Proofs.YtchcedoaiihnmaaGreatDoor
open Go.RowKit Go.Nst
set_option maxRecDepth 100000
set_option linter.unusedVariables false
set_option linter.unusedSimpArgs false

def usesN (k : Int) : Nat :=
  if k = 1 then 3
  else if k = 2 then 1
  else if k = 3 then 3
  else if k = 4 then 1
  else if k = 5 then 1
  else if k = 6 then 3
  else if k = 7 then 7
  else if k = 8 then 5
  else if k = 9 then 5
  else if k = 10 then 5
  else if k = 11 then 1
  else if k = 12 then 1
  else if k = 13 then 4
  else 0
def usesT (k : Int) : Nat :=
  if k = 1 then 1
  else if k = 2 then 0
  else if k = 3 then 3
  else if k = 4 then 0
  else if k = 5 then 2
  else if k = 6 then 0
  else if k = 7 then 7
  else if k = 8 then 0
  else if k = 9 then 0
  else if k = 10 then 1
  else if k = 11 then 3
  else if k = 12 then 0
  else if k = 13 then 0
  else 0
theorem ite_lt8 {c : Prop} [Decidable c] {x y : Nat} (hx : x < 8) (hy : y < 8) : (if c then x else y) < 8 := by
  by_cases hc : c
  · rw [if_pos hc]; exact hx
  · rw [if_neg hc]; exact hy
theorem usesN_lt (k : Int) : usesN k < 8 := by
  unfold usesN
  repeat (first | decide | refine ite_lt8 (by decide) ?_)
theorem usesT_lt (k : Int) : usesT k < 8 := by
  unfold usesT
  repeat (first | decide | refine ite_lt8 (by decide) ?_)
end Go.Proofs.YtchcedoaiihnmaaGreatDoor
end
section
namespace Go.Proofs.YtchcedoaiihnmaaGreatDoor
open Go.RowKit Go.Nst
set_option maxRecDepth 100000
set_option linter.unusedVariables false
set_option linter.unusedSimpArgs false

/-! ### what is kept of an event's fields -/
def uA (k a : Int) : Int := if k = 13 then 0 else a
def uB (k b : Int) : Int := if k = 1 then b else if k = 3 then b else if k = 6 then b else if k = 7 then b else 0
def uN (k n : Int) : Int := if k = 7 then n else if k = 8 then n else if k = 9 then n else if k = 10 then n else if k = 13 then n else 0
def uS (k : Int) (s : List UInt8) : List UInt8 := if k = 1 then s else if k = 3 then s else if k = 7 then s else if k = 10 then s else if k = 11 then s else []
def uT (k : Int) (t : List UInt8) : List UInt8 := if k = 3 then t else if k = 5 then t else if k = 7 then t else if k = 11 then t else []
def uU (k : Int) (u : List UInt8) : List UInt8 := if k = 7 then u else []
theorem kind_cases (k : Int) (hk : 1 ≤ k ∧ k ≤ 13) : k = 1 ∨ k = 2 ∨ k = 3 ∨ k = 4 ∨ k = 5 ∨ k = 6 ∨ k = 7 ∨ k = 8 ∨ k = 9 ∨ k = 10 ∨ k = 11 ∨ k = 12 ∨ k = 13 := by omega
theorem usedV_eq (k a b n : Int) (s t u : List UInt8) (hk : 1 ≤ k ∧ k ≤ 13) : usedV k a b n s t u = evV k (uA k a) (uB k b) (uN k n) (uS k s) (uT k t) (uU k u) := by
  rcases kind_cases k hk with rfl | rfl | rfl | rfl | rfl | rfl | rfl | rfl | rfl | rfl | rfl | rfl | rfl <;> rfl
/-- may an event be? -/
def evOK (k a b n : Int) (s t u : List UInt8) : Bool := rightB k a b n s t u && sameB a b n s t u (uA k a) (uB k b) (uN k n) (uS k s) (uT k t) (uU k u)
theorem rightB_kind {k a b n : Int} {s t u : List UInt8} (h : rightB k a b n s t u = true) : 1 ≤ k ∧ k ≤ 13 := by
  by_cases hk : 1 ≤ k ∧ k ≤ 13
  · exact hk
  · rw [rightB_else hk] at h; cases h
theorem evOK_kind {k a b n : Int} {s t u : List UInt8} (h : evOK k a b n s t u = true) : 1 ≤ k ∧ k ≤ 13 := by
  unfold evOK at h
  rw [Bool.and_eq_true] at h
  exact rightB_kind h.1
theorem check14_any (k a b n : Int) (s t u : List UInt8) (w : World) (hs : s.length ≤ 20000) (ht : t.length ≤ 20000) (hu : u.length ≤ 20000) : Calls Tryz.prog 10 #[.agg (evV k a b n s t u)] w fun e w' => e = .returned (.int .i64 (if evOK k a b n s t u then 0 else 140)) ∧ Below w.heap.size w w' := by
  cases hr : rightB k a b n s t u with
  | false =>
    have he : evOK k a b n s t u = false := by unfold evOK; rw [hr]; rfl
    rw [he]
    exact check_no k a b n s t u w hs ht hu hr
  | true =>
    have he : evOK k a b n s t u = sameB a b n s t u (uA k a) (uB k b) (uN k n) (uS k s) (uT k t) (uU k u) := by unfold evOK; rw [hr]; rfl
    rw [he]
    exact check_yes k a b n s t u w hs ht hu hr (usedV_eq k a b n s t u (rightB_kind hr))
end Go.Proofs.YtchcedoaiihnmaaGreatDoor
end
