/-
  Events shown: the document's Show (printed by gen_evu.py).
-/
import Derived.Test.YtchcedoaiihnmaaGreatDoorEvR
import Derived.Test.YtchcedoaiihnmaaGreatDoorEvT
namespace Go.Proofs.YtchcedoaiihnmaaGreatDoor
open Go.RowKit Go.Nst
set_option maxRecDepth 100000
set_option linter.unusedVariables false
set_option linter.unusedSimpArgs false

set_option maxHeartbeats 8000000 in
theorem refShow14_any (k a b n : Int) (s t u : List UInt8) (w : World) (ia : in64e a) (ib : in64e b) (in_ : in64e n) (hs : s.length ≤ 20000) (ht : t.length ≤ 20000) (hu : u.length ≤ 20000) :
    Calls Tryz.prog 14 #[.agg (evV k a b n s t u)] w fun e w' => e = .returned (.string ⟨(showK k a b n s t u (nameK k)).toArray⟩) ∧ Below w.heap.size w w' := by
  have HNM := Lib.hid (fun W => refName14_any k W)
  have hnl := nameK_len k
  generalize nameK k = nm at *
  simp only [evV]
  have B0 := bel_alloc (Below.refl w.heap.size w) (.cells #[.int .i64 k, .int .i64 a, .int .i64 b, .int .i64 n, .string ⟨s.toArray⟩, .string ⟨t.toArray⟩, .string ⟨u.toArray⟩] 23)
  have hE0 := Blk.new w 23 #[.int .i64 k, .int .i64 a, .int .i64 b, .int .i64 n, .string ⟨s.toArray⟩, .string ⟨t.toArray⟩, .string ⟨u.toArray⟩]
  by_cases hnm : nm = []
  · subst hnm
    have HV : Hid (showK k a b n s t u [] = [63]) := rfl
    go_enter Tryz.func14, Tryz.ntmps14
    go_wp2_with fail
    (with_reducible refine (HNM.out _).mono ?_)
    rintro e w1 ⟨rfl, hb⟩
    have B1 := bel_step B0 hb
    go_wp2_with fail
    go_ret
    exact ⟨by rw [HV.out]; rfl, B1⟩
  · have e1 : (nm == []) = false := by simpa using hnm
    have e2 : nm.isEmpty = false := by cases nm with | nil => exact absurd rfl hnm | cons a t => rfl
    have HV : Hid (showK k a b n s t u nm = nm ++ 32 :: (Lib.itoa a ++ 32 :: (Lib.itoa b ++ 32 :: (Lib.itoa n ++ 32 :: (quoteL s ++ 32 :: (quoteL t ++ 32 :: quoteL u)))))) := Lib.hid (by unfold showK showE; rw [if_neg hnm])
    have la := Lib.itoa_length_le a ia.1 ia.2
    have lb := Lib.itoa_length_le b ib.1 ib.2
    have ln := Lib.itoa_length_le n in_.1 in_.2
    have ls := quoteL_len s
    have lt := quoteL_len t
    have lu := quoteL_len u
    have HA := Lib.hid (fun W => refDigits14_any a W ia.1 ia.2)
    have HB := Lib.hid (fun W => refDigits14_any b W ib.1 ib.2)
    have HN := Lib.hid (fun W => refDigits14_any n W in_.1 in_.2)
    have HS := Lib.hid (fun W => refQuote14_any s W hs)
    have HT := Lib.hid (fun W => refQuote14_any t W ht)
    have HU := Lib.hid (fun W => refQuote14_any u W hu)
    generalize Lib.itoa a = ta at *
    generalize Lib.itoa b = tb at *
    generalize Lib.itoa n = tn at *
    generalize quoteL s = ts at *
    generalize quoteL t = tt at *
    generalize quoteL u = tu at *
    generalize showK k a b n s t u nm = res at *
    have p1 : ¬ 9223372036854775807 < nm.length + 1 := by omega
    have p2 : ¬ 9223372036854775807 < nm.length + 1 + ta.length := by omega
    have p3 : ¬ 9223372036854775807 < nm.length + 1 + ta.length + 1 := by omega
    have p4 : ¬ 9223372036854775807 < nm.length + 1 + ta.length + 1 + tb.length := by omega
    have p5 : ¬ 9223372036854775807 < nm.length + 1 + ta.length + 1 + tb.length + 1 := by omega
    have p6 : ¬ 9223372036854775807 < nm.length + 1 + ta.length + 1 + tb.length + 1 + tn.length := by omega
    have p7 : ¬ 9223372036854775807 < nm.length + 1 + ta.length + 1 + tb.length + 1 + tn.length + 1 := by omega
    have p8 : ¬ 9223372036854775807 < nm.length + 1 + ta.length + 1 + tb.length + 1 + tn.length + 1 + ts.length := by omega
    have p9 : ¬ 9223372036854775807 < nm.length + 1 + ta.length + 1 + tb.length + 1 + tn.length + 1 + ts.length + 1 := by omega
    have p10 : ¬ 9223372036854775807 < nm.length + 1 + ta.length + 1 + tb.length + 1 + tn.length + 1 + ts.length + 1 + tt.length := by omega
    have p11 : ¬ 9223372036854775807 < nm.length + 1 + ta.length + 1 + tb.length + 1 + tn.length + 1 + ts.length + 1 + tt.length + 1 := by omega
    have p12 : ¬ 9223372036854775807 < nm.length + 1 + ta.length + 1 + tb.length + 1 + tn.length + 1 + ts.length + 1 + tt.length + 1 + tu.length := by omega
    clear hnm ia ib in_
    go_enter Tryz.func14, Tryz.ntmps14
    go_wp2_with fail
    (with_reducible refine (HNM.out _).mono ?_)
    rintro e w1 ⟨rfl, hb⟩
    have B1 := bel_step B0 hb
    have hE1 := hE0.below hb hE0.lt
    clear hb hE0 B0
    go_wp2_with fail
    refine wp_region_ordR (fun w W => Below w.heap.size w W) (fun _ => Below.refl _ _) (fun _ _ _ => bel_step) (by kernel_rfl) (.take 0 (.take 1 (.take 4 (.take 5 (.take 9 (.take 10 (.take 14 (.take 15 (.take 19 (.take 20 (.take 24 (.take 25 (.take 29 (.take 30 (.exec 2 (.take 3 (.take 6 (.take 7 (.take 8 (.take 11 (.take 12 (.take 13 (.take 16 (.take 17 (.take 18 (.take 21 (.take 22 (.take 23 (.take 26 (.take 27 (.take 28 (.take 31 (.take 32 (.take 33 (.nil))))))))))))))))))))))))))))))))))) (by kernel_rfl) (by kernel_rfl) (by kernel_rfl) ?_
    obtain ⟨w2, hw2⟩ : ∃ w2, w2 = w1.drew := ⟨_, rfl⟩
    have B2 : Below w.heap.size w w2 := by rw [hw2]; exact B1.drew
    have hE2 : Blk w2 w.heap.size 23 #[.int .i64 k, .int .i64 a, .int .i64 b, .int .i64 n, .string ⟨s.toArray⟩, .string ⟨t.toArray⟩, .string ⟨u.toArray⟩] := by rw [hw2]; exact hE1
    rw [← hw2]
    clear hw2 hE1 B1
    have c0 := fun W (hW : Below w2.heap.size w2 W) => (show W.cell? ⟨w.heap.size, 0, none⟩ = some (.int .i64 k) from ((hE2.below hW hE2.lt).cell 0).trans rfl)
    have c1 := fun W (hW : Below w2.heap.size w2 W) => (show W.cell? ⟨w.heap.size, 1, none⟩ = some (.int .i64 a) from ((hE2.below hW hE2.lt).cell 1).trans rfl)
    have c2 := fun W (hW : Below w2.heap.size w2 W) => (show W.cell? ⟨w.heap.size, 2, none⟩ = some (.int .i64 b) from ((hE2.below hW hE2.lt).cell 2).trans rfl)
    have c3 := fun W (hW : Below w2.heap.size w2 W) => (show W.cell? ⟨w.heap.size, 3, none⟩ = some (.int .i64 n) from ((hE2.below hW hE2.lt).cell 3).trans rfl)
    have c4 := fun W (hW : Below w2.heap.size w2 W) => (show W.cell? ⟨w.heap.size, 4, none⟩ = some (.string ⟨s.toArray⟩) from ((hE2.below hW hE2.lt).cell 4).trans rfl)
    have c5 := fun W (hW : Below w2.heap.size w2 W) => (show W.cell? ⟨w.heap.size, 5, none⟩ = some (.string ⟨t.toArray⟩) from ((hE2.below hW hE2.lt).cell 5).trans rfl)
    have c6 := fun W (hW : Below w2.heap.size w2 W) => (show W.cell? ⟨w.heap.size, 6, none⟩ = some (.string ⟨u.toArray⟩) from ((hE2.below hW hE2.lt).cell 6).trans rfl)
    iterate 14 (refine wpOrd_take (o := ⟨_, _, _, _, _, _⟩) (v := ?_) rfl rfl ?_ ?_; rotate_left; (focus (intro W hW; go_simp; first | done | with_reducible rfl)); simp only [Act.put, List.setIfInBounds_toArray, List.set_cons_zero, List.set_cons_succ])
    clear c0 c1 c2 c3 c4 c5 c6
    refine wpOrd_exec (o := ⟨_, _, _, _, _, _⟩) rfl rfl (fun K hK => ?_)
    go_simp
    (with_reducible refine (HNM.out _).mono ?_)
    rintro e w3 ⟨rfl, hb⟩
    have B3 := bel_step B2 hb
    go_wp2_with fail
    refine hK _ _ hb ?_
    clear hK K hb
    iterate 1 (refine wpOrd_take (o := ⟨_, _, _, _, _, _⟩) (v := ?_) rfl rfl ?_ ?_; rotate_left; (focus (intro W hW; go_simp; first | done | with_reducible rfl)); simp only [Act.put, List.setIfInBounds_toArray, List.set_cons_zero, List.set_cons_succ])
    (refine wpOrd_call (o := ⟨_, _, _, _, _, _⟩) rfl rfl (fun W hW => HA.out W) ?_ ?_; (focus (intro W hW; go_simp; first | done | with_reducible rfl)); simp only [Act.put, List.setIfInBounds_toArray, List.set_cons_zero, List.set_cons_succ])
    iterate 2 (refine wpOrd_take (o := ⟨_, _, _, _, _, _⟩) (v := ?_) rfl rfl ?_ ?_; rotate_left; (focus (intro W hW; go_simp; first | done | with_reducible rfl)); simp only [Act.put, List.setIfInBounds_toArray, List.set_cons_zero, List.set_cons_succ])
    (refine wpOrd_call (o := ⟨_, _, _, _, _, _⟩) rfl rfl (fun W hW => HB.out W) ?_ ?_; (focus (intro W hW; go_simp; first | done | with_reducible rfl)); simp only [Act.put, List.setIfInBounds_toArray, List.set_cons_zero, List.set_cons_succ])
    iterate 2 (refine wpOrd_take (o := ⟨_, _, _, _, _, _⟩) (v := ?_) rfl rfl ?_ ?_; rotate_left; (focus (intro W hW; go_simp; first | done | with_reducible rfl)); simp only [Act.put, List.setIfInBounds_toArray, List.set_cons_zero, List.set_cons_succ])
    (refine wpOrd_call (o := ⟨_, _, _, _, _, _⟩) rfl rfl (fun W hW => HN.out W) ?_ ?_; (focus (intro W hW; go_simp; first | done | with_reducible rfl)); simp only [Act.put, List.setIfInBounds_toArray, List.set_cons_zero, List.set_cons_succ])
    iterate 2 (refine wpOrd_take (o := ⟨_, _, _, _, _, _⟩) (v := ?_) rfl rfl ?_ ?_; rotate_left; (focus (intro W hW; go_simp; first | done | with_reducible rfl)); simp only [Act.put, List.setIfInBounds_toArray, List.set_cons_zero, List.set_cons_succ])
    (refine wpOrd_call (o := ⟨_, _, _, _, _, _⟩) rfl rfl (fun W hW => HS.out W) ?_ ?_; (focus (intro W hW; go_simp; first | done | with_reducible rfl)); simp only [Act.put, List.setIfInBounds_toArray, List.set_cons_zero, List.set_cons_succ])
    iterate 2 (refine wpOrd_take (o := ⟨_, _, _, _, _, _⟩) (v := ?_) rfl rfl ?_ ?_; rotate_left; (focus (intro W hW; go_simp; first | done | with_reducible rfl)); simp only [Act.put, List.setIfInBounds_toArray, List.set_cons_zero, List.set_cons_succ])
    (refine wpOrd_call (o := ⟨_, _, _, _, _, _⟩) rfl rfl (fun W hW => HT.out W) ?_ ?_; (focus (intro W hW; go_simp; first | done | with_reducible rfl)); simp only [Act.put, List.setIfInBounds_toArray, List.set_cons_zero, List.set_cons_succ])
    iterate 2 (refine wpOrd_take (o := ⟨_, _, _, _, _, _⟩) (v := ?_) rfl rfl ?_ ?_; rotate_left; (focus (intro W hW; go_simp; first | done | with_reducible rfl)); simp only [Act.put, List.setIfInBounds_toArray, List.set_cons_zero, List.set_cons_succ])
    (refine wpOrd_call (o := ⟨_, _, _, _, _, _⟩) rfl rfl (fun W hW => HU.out W) ?_ ?_; (focus (intro W hW; go_simp; first | done | with_reducible rfl)); simp only [Act.put, List.setIfInBounds_toArray, List.set_cons_zero, List.set_cons_succ])
    iterate 2 (refine wpOrd_take (o := ⟨_, _, _, _, _, _⟩) (v := ?_) rfl rfl ?_ ?_; rotate_left; (focus (intro W hW; go_simp; first | done | with_reducible rfl)); simp only [Act.put, List.setIfInBounds_toArray, List.set_cons_zero, List.set_cons_succ])
    refine wpOrd_nil ?_
    go_wp2_with fail
    go_ret
    rw [HV.out]
    refine ⟨?_, B3⟩
    try rw [show (ByteArray.mk #[32]) = ⟨[32].toArray⟩ from rfl]
    try simp only [ba_app14]
    simp
end Go.Proofs.YtchcedoaiihnmaaGreatDoor
