/-
  Events: the run with which each statement begins (printed by gen_evw.py).
-/
import Derived.Test.YtchcedoaiihnmaaGreatDoorEvT
import Derived.Test.YtchcedoaiihnmaaGreatDoorEvK
namespace Go.Proofs.YtchcedoaiihnmaaGreatDoor
open Go.RowKit Go.Nst
set_option maxRecDepth 100000
set_option linter.unusedVariables false
set_option linter.unusedSimpArgs false


theorem l14_s1 : showK 9 5 0 1 [] [] [] (nameK 9) = [115, 116, 97, 114, 32, 53, 32, 48, 32, 49, 32, 34, 34, 32, 34, 34, 32, 34, 34] := by decide +kernel
theorem l14_s2 : showK 1 1 0 0 [34, 92] [] [] (nameK 1) = [102, 111, 108, 100, 101, 114, 32, 49, 32, 48, 32, 48, 32, 34, 92, 34, 92, 92, 34, 32, 34, 34, 32, 34, 34] := by decide +kernel
theorem l14_c1 : evOK 9 5 0 1 [] [] [] = true := by decide +kernel
theorem l14_c2 : evOK 0 0 0 0 [] [] [] = false := by decide +kernel
theorem l14_ta : labelB [65, 32, 98] = true := by decide +kernel
theorem l14_tb : tagB [103, 111] = true := by decide +kernel
theorem l14_tc : tagB [71, 111] = false := by decide +kernel
theorem l14_td : titleB [] = true := by decide +kernel
theorem l14_te : linkB [108] = true := by decide +kernel
theorem l14_tf : queryB [120] = true := by decide +kernel
theorem l14_tg : queryB [] = false := by decide +kernel
set_option maxHeartbeats 8000000 in
theorem lives14_any (m : Int) (w : World) (hM : EvW m w) : Calls Tryz.prog 6 #[] w fun e w' => e = .returned (.bool true) ∧ Below w.heap.size w w' := by
  have H1 : Hid (∀ W, Calls Tryz.prog 8 #[.agg #[.int .i64 9, .int .i64 5, .int .i64 0, .int .i64 1, .string ⟨#[]⟩, .string ⟨#[]⟩, .string ⟨#[]⟩]] W fun e w' => e = .returned (.tuple #[.int .i64 5, .bool true]) ∧ Below W.heap.size W w') := Lib.hid (fun W => item14_any 9 5 0 1 [] [] [] W)
  have H2 : Hid (∀ W, Calls Tryz.prog 8 #[.agg #[.int .i64 13, .int .i64 0, .int .i64 0, .int .i64 0, .string ⟨#[]⟩, .string ⟨#[]⟩, .string ⟨#[]⟩]] W fun e w' => e = .returned (.tuple #[.int .i64 0, .bool false]) ∧ Below W.heap.size W w') := Lib.hid (fun W => item14_any 13 0 0 0 [] [] [] W)
  have H3 : Hid (∀ W, Calls Tryz.prog 10 #[.agg #[.int .i64 9, .int .i64 5, .int .i64 0, .int .i64 1, .string ⟨#[]⟩, .string ⟨#[]⟩, .string ⟨#[]⟩]] W fun e w' => e = .returned (.int .i64 0) ∧ Below W.heap.size W w') := Lib.hid (fun W => by
    have := check14_any 9 5 0 1 [] [] [] W (by decide) (by decide) (by decide)
    rw [l14_c1] at this
    exact this)
  have H4 : Hid (∀ W, Calls Tryz.prog 10 #[.agg #[.int .i64 0, .int .i64 0, .int .i64 0, .int .i64 0, .string ⟨#[]⟩, .string ⟨#[]⟩, .string ⟨#[]⟩]] W fun e w' => e = .returned (.int .i64 140) ∧ Below W.heap.size W w') := Lib.hid (fun W => by
    have := check14_any 0 0 0 0 [] [] [] W (by decide) (by decide) (by decide)
    rw [l14_c2] at this
    exact this)
  have H5 : Hid (∀ W, EvW m W → Calls Tryz.prog 13 #[.agg #[.int .i64 9, .int .i64 5, .int .i64 0, .int .i64 1, .string ⟨#[]⟩, .string ⟨#[]⟩, .string ⟨#[]⟩]] W fun e w' => e = .returned (.string ⟨#[115, 116, 97, 114, 32, 53, 32, 48, 32, 49, 32, 34, 34, 32, 34, 34, 32, 34, 34]⟩) ∧ Below W.heap.size W w') := Lib.hid (fun W h => by
    have := show14_any 9 5 0 1 [] [] [] m W h (by unfold in64e; omega) (by unfold in64e; omega) (by unfold in64e; omega) (by decide) (by decide) (by decide)
    rw [l14_s1] at this
    exact this)
  have H6 : Hid (∀ W, EvW m W → Calls Tryz.prog 13 #[.agg #[.int .i64 1, .int .i64 1, .int .i64 0, .int .i64 0, .string ⟨#[34, 92]⟩, .string ⟨#[]⟩, .string ⟨#[]⟩]] W fun e w' => e = .returned (.string ⟨#[102, 111, 108, 100, 101, 114, 32, 49, 32, 48, 32, 48, 32, 34, 92, 34, 92, 92, 34, 32, 34, 34, 32, 34, 34]⟩) ∧ Below W.heap.size W w') := Lib.hid (fun W h => by
    have := show14_any 1 1 0 0 [34, 92] [] [] m W h (by unfold in64e; omega) (by unfold in64e; omega) (by unfold in64e; omega) (by decide) (by decide) (by decide)
    rw [l14_s2] at this
    exact this)
  have H7 : Hid (∀ W, EvW m W → Calls Tryz.prog 11 #[.int .i64 13] W fun e w' => e = .returned (.string ⟨#[99, 108, 111, 99, 107]⟩) ∧ W = w') := Lib.hid (fun W h => name_any 13 W h.nms)
  have T1 : Hid (∀ W, Calls Tryz.prog 15 #[.string ⟨#[65, 32, 98]⟩] W fun e w' => e = .returned (.bool true) ∧ Below W.heap.size W w') := Lib.hid (fun W => by
    have := label_any [65, 32, 98] W (by decide)
    rw [l14_ta] at this
    exact this)
  have T2 : Hid (∀ W, Calls Tryz.prog 16 #[.string ⟨#[103, 111]⟩] W fun e w' => e = .returned (.bool true) ∧ Below W.heap.size W w') := Lib.hid (fun W => by
    have := tag_any [103, 111] W (by decide)
    rw [l14_tb] at this
    exact this)
  have T3 : Hid (∀ W, Calls Tryz.prog 16 #[.string ⟨#[71, 111]⟩] W fun e w' => e = .returned (.bool false) ∧ Below W.heap.size W w') := Lib.hid (fun W => by
    have := tag_any [71, 111] W (by decide)
    rw [l14_tc] at this
    exact this)
  have T4 : Hid (∀ W, Calls Tryz.prog 17 #[.string ⟨#[]⟩] W fun e w' => e = .returned (.bool true) ∧ Below W.heap.size W w') := Lib.hid (fun W => by
    have := title_any [] W (by decide)
    rw [l14_td] at this
    exact this)
  have T5 : Hid (∀ W, Calls Tryz.prog 18 #[.string ⟨#[108]⟩] W fun e w' => e = .returned (.bool true) ∧ Below W.heap.size W w') := Lib.hid (fun W => by
    have := link_any [108] W (by decide)
    rw [l14_te] at this
    exact this)
  have T6 : Hid (∀ W, Calls Tryz.prog 19 #[.string ⟨#[120]⟩] W fun e w' => e = .returned (.bool true) ∧ Below W.heap.size W w') := Lib.hid (fun W => by
    have := query_any [120] W (by decide)
    rw [l14_tf] at this
    exact this)
  have T7 : Hid (∀ W, Calls Tryz.prog 19 #[.string ⟨#[]⟩] W fun e w' => e = .returned (.bool false) ∧ Below W.heap.size W w') := Lib.hid (fun W => by
    have := query_any [] W (by decide)
    rw [l14_tg] at this
    exact this)
  have B := bel_alloc (Below.refl w.heap.size w) (.cells #[.int .i64 9, .int .i64 5, .int .i64 0, .int .i64 1, .string ⟨#[]⟩, .string ⟨#[]⟩, .string ⟨#[]⟩] 23)
  have hE := Blk.new w 23 #[.int .i64 9, .int .i64 5, .int .i64 0, .int .i64 1, .string ⟨#[]⟩, .string ⟨#[]⟩, .string ⟨#[]⟩]
  go_enter Tryz.func6, Tryz.ntmps6
  have z0 := hE.cell 0
  have z1 := hE.cell 1
  have z2 := hE.cell 2
  have z3 := hE.cell 3
  have z4 := hE.cell 4
  have z5 := hE.cell 5
  have z6 := hE.cell 6
  simp at z0 z1 z2 z3 z4 z5 z6
  go_wp2_with fail
  (with_reducible refine (H1.out _).mono ?_)
  rintro e w1 ⟨rfl, hb⟩
  have B := bel_step B hb
  have hE := hE.below hb hE.lt
  clear hb
  clear z0 z1 z2 z3 z4 z5 z6
  go_wp2_with fail
  (with_reducible refine (H2.out _).mono ?_)
  rintro e w2 ⟨rfl, hb⟩
  have B := bel_step B hb
  have hE := hE.below hb hE.lt
  clear hb
  have z0 := hE.cell 0
  have z1 := hE.cell 1
  have z2 := hE.cell 2
  have z3 := hE.cell 3
  have z4 := hE.cell 4
  have z5 := hE.cell 5
  have z6 := hE.cell 6
  simp at z0 z1 z2 z3 z4 z5 z6
  go_wp2_with fail
  (with_reducible refine (H3.out _).mono ?_)
  rintro e w3 ⟨rfl, hb⟩
  have B := bel_step B hb
  have hE := hE.below hb hE.lt
  clear hb
  clear z0 z1 z2 z3 z4 z5 z6
  go_wp2_with fail
  (with_reducible refine (H4.out _).mono ?_)
  rintro e w4 ⟨rfl, hb⟩
  have B := bel_step B hb
  have hE := hE.below hb hE.lt
  clear hb
  have z0 := hE.cell 0
  have z1 := hE.cell 1
  have z2 := hE.cell 2
  have z3 := hE.cell 3
  have z4 := hE.cell 4
  have z5 := hE.cell 5
  have z6 := hE.cell 6
  simp at z0 z1 z2 z3 z4 z5 z6
  go_wp2_with fail
  (with_reducible refine (H5.out _ (hM.keep B)).mono ?_)
  rintro e w5 ⟨rfl, hb⟩
  have B := bel_step B hb
  have hE := hE.below hb hE.lt
  clear hb
  clear z0 z1 z2 z3 z4 z5 z6
  go_wp2_with fail
  (with_reducible refine (H7.out _ (hM.keep B)).mono ?_)
  rintro e w6 ⟨rfl, rfl⟩
  go_wp2_with fail
  (with_reducible refine (T1.out _).mono ?_)
  rintro e w7 ⟨rfl, hb⟩
  have B := bel_step B hb
  have hE := hE.below hb hE.lt
  clear hb
  go_wp2_with fail
  (with_reducible refine (T2.out _).mono ?_)
  rintro e w8 ⟨rfl, hb⟩
  have B := bel_step B hb
  have hE := hE.below hb hE.lt
  clear hb
  go_wp2_with fail
  (with_reducible refine (T3.out _).mono ?_)
  rintro e w9 ⟨rfl, hb⟩
  have B := bel_step B hb
  have hE := hE.below hb hE.lt
  clear hb
  go_wp2_with fail
  (with_reducible refine (T4.out _).mono ?_)
  rintro e w10 ⟨rfl, hb⟩
  have B := bel_step B hb
  have hE := hE.below hb hE.lt
  clear hb
  go_wp2_with fail
  (with_reducible refine (T5.out _).mono ?_)
  rintro e w11 ⟨rfl, hb⟩
  have B := bel_step B hb
  have hE := hE.below hb hE.lt
  clear hb
  go_wp2_with fail
  (with_reducible refine (T6.out _).mono ?_)
  rintro e w12 ⟨rfl, hb⟩
  have B := bel_step B hb
  have hE := hE.below hb hE.lt
  clear hb
  go_wp2_with fail
  (with_reducible refine (T7.out _).mono ?_)
  rintro e w13 ⟨rfl, hb⟩
  have B := bel_step B hb
  have hE := hE.below hb hE.lt
  clear hb
  go_wp2_with fail
  (with_reducible refine (H6.out _ (hM.keep B)).mono ?_)
  rintro e w14 ⟨rfl, hb⟩
  have B := bel_step B hb
  have hE := hE.below hb hE.lt
  clear hb
  go_wp2_with fail
  go_ret
  exact ⟨rfl, B⟩
end Go.Proofs.YtchcedoaiihnmaaGreatDoor
