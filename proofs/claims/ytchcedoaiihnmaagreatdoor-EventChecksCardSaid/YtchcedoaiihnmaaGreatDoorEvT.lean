/-
  event.Show, event.Item (printed by gen_evs.py).
-/
import Derived.Test.YtchcedoaiihnmaaGreatDoorEvS
import Derived.Test.YtchcedoaiihnmaaGreatDoorEvB
namespace Go.Proofs.YtchcedoaiihnmaaGreatDoor
open Go.RowKit Go.Nst
set_option maxRecDepth 100000
set_option linter.unusedVariables false
set_option linter.unusedSimpArgs false

theorem nameK_len (k : Int) : (nameK k).length ≤ 20 := by
  unfold nameK
  split
  · have : k.toNat = 1 ∨ k.toNat = 2 ∨ k.toNat = 3 ∨ k.toNat = 4 ∨ k.toNat = 5 ∨ k.toNat = 6 ∨ k.toNat = 7 ∨ k.toNat = 8 ∨ k.toNat = 9 ∨ k.toNat = 10 ∨ k.toNat = 11 ∨ k.toNat = 12 ∨ k.toNat = 13 := by omega
    rcases this with e | e | e | e | e | e | e | e | e | e | e | e | e <;> rw [e] <;> decide
  · simp
theorem showE_len (nm : List UInt8) (a b n : Int) (s t u : List UInt8) (h0 : nm.length ≤ 20) (ha : (Lib.itoa a).length ≤ 21) (hb : (Lib.itoa b).length ≤ 21) (hn : (Lib.itoa n).length ≤ 21) (hs : (quoteL s).length ≤ 50000) (ht : (quoteL t).length ≤ 50000) (hu : (quoteL u).length ≤ 50000) : (showE nm a b n s t u).length ≤ 1000000 := by
  unfold showE
  simp only [List.length_append, List.length_cons]
  omega
theorem join7 (x0 x1 x2 x3 x4 x5 x6 : List UInt8) (gq : Nat) (W : World) (hq : Blk W gq 9 #[.string ⟨x0.toArray⟩, .string ⟨x1.toArray⟩, .string ⟨x2.toArray⟩, .string ⟨x3.toArray⟩, .string ⟨x4.toArray⟩, .string ⟨x5.toArray⟩, .string ⟨x6.toArray⟩]) (r : List UInt8) (hr : Lib.join [x0, x1, x2, x3, x4, x5, x6] [32] = r) (hl : r.length ≤ 1000000) :
    Calls Tryz.prog 30 #[.slice (some ⟨gq, 0, none⟩) 7 7, .string ⟨#[32]⟩] W fun e w' => e = .returned (.string ⟨r.toArray⟩) ∧ Below W.heap.size W w' := by
  have h := Tryz.strings_Join gq 0 7 [⟨x0.toArray⟩, ⟨x1.toArray⟩, ⟨x2.toArray⟩, ⟨x3.toArray⟩, ⟨x4.toArray⟩, ⟨x5.toArray⟩, ⟨x6.toArray⟩] ⟨#[32]⟩ W (fun j x hj => by
    rw [Nat.zero_add, hq.cell j]
    have : (#[.string ⟨x0.toArray⟩, .string ⟨x1.toArray⟩, .string ⟨x2.toArray⟩, .string ⟨x3.toArray⟩, .string ⟨x4.toArray⟩, .string ⟨x5.toArray⟩, .string ⟨x6.toArray⟩] : Array Value) = (([⟨x0.toArray⟩, ⟨x1.toArray⟩, ⟨x2.toArray⟩, ⟨x3.toArray⟩, ⟨x4.toArray⟩, ⟨x5.toArray⟩, ⟨x6.toArray⟩] : List ByteArray).map Value.string).toArray := rfl
    rw [this, List.getElem?_toArray, List.getElem?_map, hj]
    rfl) hq.lt (by simp) (by simp) (by
      have e : Lib.join (([⟨x0.toArray⟩, ⟨x1.toArray⟩, ⟨x2.toArray⟩, ⟨x3.toArray⟩, ⟨x4.toArray⟩, ⟨x5.toArray⟩, ⟨x6.toArray⟩] : List ByteArray).map (·.data.toList)) (ByteArray.mk #[32]).data.toList = r := hr
      rw [e]
      omega)
  have e : Lib.join (([⟨x0.toArray⟩, ⟨x1.toArray⟩, ⟨x2.toArray⟩, ⟨x3.toArray⟩, ⟨x4.toArray⟩, ⟨x5.toArray⟩, ⟨x6.toArray⟩] : List ByteArray).map (·.data.toList)) (ByteArray.mk #[32]).data.toList = r := hr
  rw [e] at h
  exact h
def in64e (n : Int) : Prop := -9223372036854775808 ≤ n ∧ n ≤ 9223372036854775807
set_option maxHeartbeats 8000000 in
theorem show14_any (k a b n : Int) (s t u : List UInt8) (m : Int) (w : World) (hM : EvW m w) (ia : in64e a) (ib : in64e b) (in_ : in64e n) (hs : s.length ≤ 20000) (ht : t.length ≤ 20000) (hu : u.length ≤ 20000) :
    Calls Tryz.prog 13 #[.agg (evV k a b n s t u)] w fun e w' => e = .returned (.string ⟨(showK k a b n s t u (nameK k)).toArray⟩) ∧ Below w.heap.size w w' := by
  have HNM := Lib.hid (fun W (h : EvW m W) => name_any k W h.nms)
  have hnl := nameK_len k
  generalize nameK k = nm at *
  simp only [evV]
  have B0 := bel_alloc (Below.refl w.heap.size w) (.cells #[.int .i64 k, .int .i64 a, .int .i64 b, .int .i64 n, .string ⟨s.toArray⟩, .string ⟨t.toArray⟩, .string ⟨u.toArray⟩] 23)
  have hE0 := Blk.new w 23 #[.int .i64 k, .int .i64 a, .int .i64 b, .int .i64 n, .string ⟨s.toArray⟩, .string ⟨t.toArray⟩, .string ⟨u.toArray⟩]
  by_cases hnm : nm = []
  · subst hnm
    have HV : Hid (showK k a b n s t u [] = [63]) := rfl
    go_enter Tryz.func13, Tryz.ntmps13
    go_wp2_with fail
    (with_reducible refine (HNM.out _ (hM.keep B0)).mono ?_)
    rintro e w1 ⟨rfl, rfl⟩
    go_wp2_with fail
    go_ret
    exact ⟨by rw [HV.out]; rfl, B0⟩
  · have e1 : (nm == []) = false := by simpa using hnm
    have e2 : nm.isEmpty = false := by cases nm with | nil => exact absurd rfl hnm | cons a t => rfl
    have HJ : Hid (Lib.join [nm, Lib.itoa a, Lib.itoa b, Lib.itoa n, quoteL s, quoteL t, quoteL u] [32] = showK k a b n s t u nm) := Lib.hid (by rw [show_join]; unfold showK; rw [if_neg hnm])
    have hll : (showK k a b n s t u nm).length ≤ 1000000 := by
      unfold showK
      rw [if_neg hnm]
      exact showE_len nm a b n s t u hnl (Lib.itoa_length_le a ia.1 ia.2) (Lib.itoa_length_le b ib.1 ib.2) (Lib.itoa_length_le n in_.1 in_.2) (by have := quoteL_len s; omega) (by have := quoteL_len t; omega) (by have := quoteL_len u; omega)
    have HA := Lib.hid (fun W (h : EvW m W) => itoa14_any a m W ia.1 ia.2 h)
    have HB := Lib.hid (fun W (h : EvW m W) => itoa14_any b m W ib.1 ib.2 h)
    have HN := Lib.hid (fun W (h : EvW m W) => itoa14_any n m W in_.1 in_.2 h)
    have HS := Lib.hid (fun W (h : EvW m W) => quote14_any s m W hs h)
    have HT := Lib.hid (fun W (h : EvW m W) => quote14_any t m W ht h)
    have HU := Lib.hid (fun W (h : EvW m W) => quote14_any u m W hu h)
    have HJ7 := Lib.hid (fun gq W hq => join7 nm (Lib.itoa a) (Lib.itoa b) (Lib.itoa n) (quoteL s) (quoteL t) (quoteL u) gq W hq _ HJ.out hll)
    generalize Lib.itoa a = ta at *
    generalize Lib.itoa b = tb at *
    generalize Lib.itoa n = tn at *
    generalize quoteL s = ts at *
    generalize quoteL t = tt at *
    generalize quoteL u = tu at *
    generalize showK k a b n s t u nm = res at *
    clear hnm hll HJ ia ib in_ hs ht hu
    go_enter Tryz.func13, Tryz.ntmps13
    go_wp2_with fail
    (with_reducible refine (HNM.out _ (hM.keep B0)).mono ?_)
    rintro e w1 ⟨rfl, rfl⟩
    go_wp2_with fail
    refine wp_region_ordR (fun w W => Below w.heap.size w W) (fun _ => Below.refl _ _) (fun _ _ _ => bel_step) (by kernel_rfl) (.take 0 (.take 1 (.take 2 (.take 3 (.take 5 (.take 6 (.take 7 (.take 9 (.take 10 (.take 11 (.take 13 (.take 14 (.take 16 (.take 17 (.take 19 (.take 20 (.exec 4 (.exec 8 (.exec 12 (.exec 15 (.exec 18 (.exec 21 (.exec 22 (.exec 23 (.take 24 (.nil)))))))))))))))))))))))))) (by kernel_rfl) (by kernel_rfl) (by kernel_rfl) ?_
    obtain ⟨w2, hw2⟩ : ∃ w2, w2 = (w.alloc (.cells #[.int .i64 k, .int .i64 a, .int .i64 b, .int .i64 n, .string ⟨s.toArray⟩, .string ⟨t.toArray⟩, .string ⟨u.toArray⟩] 23)).drew := ⟨_, rfl⟩
    have B2 : Below w.heap.size w w2 := by rw [hw2]; exact B0.drew
    have hE2 : Blk w2 w.heap.size 23 #[.int .i64 k, .int .i64 a, .int .i64 b, .int .i64 n, .string ⟨s.toArray⟩, .string ⟨t.toArray⟩, .string ⟨u.toArray⟩] := by rw [hw2]; exact hE0
    rw [← hw2]
    clear hw2 hE0 B0
    have c1 := fun W (hW : Below w2.heap.size w2 W) => (show W.cell? ⟨w.heap.size, 1, none⟩ = some (.int .i64 a) from ((hE2.below hW hE2.lt).cell 1).trans rfl)
    have c2 := fun W (hW : Below w2.heap.size w2 W) => (show W.cell? ⟨w.heap.size, 2, none⟩ = some (.int .i64 b) from ((hE2.below hW hE2.lt).cell 2).trans rfl)
    have c3 := fun W (hW : Below w2.heap.size w2 W) => (show W.cell? ⟨w.heap.size, 3, none⟩ = some (.int .i64 n) from ((hE2.below hW hE2.lt).cell 3).trans rfl)
    have c4 := fun W (hW : Below w2.heap.size w2 W) => (show W.cell? ⟨w.heap.size, 4, none⟩ = some (.string ⟨s.toArray⟩) from ((hE2.below hW hE2.lt).cell 4).trans rfl)
    have c5 := fun W (hW : Below w2.heap.size w2 W) => (show W.cell? ⟨w.heap.size, 5, none⟩ = some (.string ⟨t.toArray⟩) from ((hE2.below hW hE2.lt).cell 5).trans rfl)
    have c6 := fun W (hW : Below w2.heap.size w2 W) => (show W.cell? ⟨w.heap.size, 6, none⟩ = some (.string ⟨u.toArray⟩) from ((hE2.below hW hE2.lt).cell 6).trans rfl)
    iterate 16 (refine wpOrd_take (o := ⟨_, _, _, _, _, _⟩) (v := ?_) rfl rfl ?_ ?_; rotate_left; (focus (intro W hW; go_simp; first | done | with_reducible rfl)); simp only [Act.put, List.setIfInBounds_toArray, List.set_cons_zero, List.set_cons_succ])
    clear c1 c2 c3 c4 c5 c6
    refine wpOrd_exec (o := ⟨_, _, _, _, _, _⟩) rfl rfl (fun K hK => ?_)
    go_simp
    (with_reducible refine (HA.out _ (hM.keep B2)).mono ?_)
    rintro e w30 ⟨rfl, hb⟩
    have B2 := bel_step B2 hb
    go_wp2_with fail
    refine hK _ _ hb ?_
    clear hK K hb
    refine wpOrd_exec (o := ⟨_, _, _, _, _, _⟩) rfl rfl (fun K hK => ?_)
    go_simp
    (with_reducible refine (HB.out _ (hM.keep B2)).mono ?_)
    rintro e w31 ⟨rfl, hb⟩
    have B2 := bel_step B2 hb
    go_wp2_with fail
    refine hK _ _ hb ?_
    clear hK K hb
    refine wpOrd_exec (o := ⟨_, _, _, _, _, _⟩) rfl rfl (fun K hK => ?_)
    go_simp
    (with_reducible refine (HN.out _ (hM.keep B2)).mono ?_)
    rintro e w32 ⟨rfl, hb⟩
    have B2 := bel_step B2 hb
    go_wp2_with fail
    refine hK _ _ hb ?_
    clear hK K hb
    refine wpOrd_exec (o := ⟨_, _, _, _, _, _⟩) rfl rfl (fun K hK => ?_)
    go_simp
    (with_reducible refine (HS.out _ (hM.keep B2)).mono ?_)
    rintro e w33 ⟨rfl, hb⟩
    have B2 := bel_step B2 hb
    go_wp2_with fail
    refine hK _ _ hb ?_
    clear hK K hb
    refine wpOrd_exec (o := ⟨_, _, _, _, _, _⟩) rfl rfl (fun K hK => ?_)
    go_simp
    (with_reducible refine (HT.out _ (hM.keep B2)).mono ?_)
    rintro e w34 ⟨rfl, hb⟩
    have B2 := bel_step B2 hb
    go_wp2_with fail
    refine hK _ _ hb ?_
    clear hK K hb
    refine wpOrd_exec (o := ⟨_, _, _, _, _, _⟩) rfl rfl (fun K hK => ?_)
    go_simp
    (with_reducible refine (HU.out _ (hM.keep B2)).mono ?_)
    rintro e w35 ⟨rfl, hb⟩
    have B2 := bel_step B2 hb
    go_wp2_with fail
    refine hK _ _ hb ?_
    clear hK K hb
    refine wpOrd_exec (o := ⟨_, _, _, _, _, _⟩) rfl rfl (fun K hK => ?_)
    go_simp
    refine hK _ _ (bel_alloc (Below.refl w35.heap.size w35) (.cells #[.string ⟨nm.toArray⟩, .string ⟨ta.toArray⟩, .string ⟨tb.toArray⟩, .string ⟨tn.toArray⟩, .string ⟨ts.toArray⟩, .string ⟨tt.toArray⟩, .string ⟨tu.toArray⟩] 9)) ?_
    clear hK K
    have hq := Blk.new w35 9 #[.string ⟨nm.toArray⟩, .string ⟨ta.toArray⟩, .string ⟨tb.toArray⟩, .string ⟨tn.toArray⟩, .string ⟨ts.toArray⟩, .string ⟨tt.toArray⟩, .string ⟨tu.toArray⟩]
    have B3 := bel_alloc B2 (.cells #[.string ⟨nm.toArray⟩, .string ⟨ta.toArray⟩, .string ⟨tb.toArray⟩, .string ⟨tn.toArray⟩, .string ⟨ts.toArray⟩, .string ⟨tt.toArray⟩, .string ⟨tu.toArray⟩] 9)
    obtain ⟨gq, hgq⟩ : ∃ g, g = w35.heap.size := ⟨_, rfl⟩
    rw [← hgq] at hq
    simp only [← hgq]
    generalize w35.alloc (.cells #[.string ⟨nm.toArray⟩, .string ⟨ta.toArray⟩, .string ⟨tb.toArray⟩, .string ⟨tn.toArray⟩, .string ⟨ts.toArray⟩, .string ⟨tt.toArray⟩, .string ⟨tu.toArray⟩] 9) = w4 at *
    clear hgq
    refine wpOrd_exec (o := ⟨_, _, _, _, _, _⟩) rfl rfl (fun K hK => ?_)
    go_simp
    (with_reducible refine (HJ7.out _ _ hq).mono ?_)
    rintro e w5 ⟨rfl, hb⟩
    have B5 := bel_step B3 hb
    go_wp2_with fail
    refine hK _ _ hb ?_
    clear hK K hb
    iterate 1 (refine wpOrd_take (o := ⟨_, _, _, _, _, _⟩) (v := ?_) rfl rfl ?_ ?_; rotate_left; (focus (intro W hW; go_simp; first | done | with_reducible rfl)); simp only [Act.put, List.setIfInBounds_toArray, List.set_cons_zero, List.set_cons_succ])
    refine wpOrd_nil ?_
    go_wp2_with fail
    go_ret
    exact ⟨rfl, B5⟩
def itemO (k a : Int) : Option Int := if k = 7 ∨ k = 8 ∨ k = 9 ∨ k = 10 then some a else none
def itV (o : Option Int) : Value := .tuple #[.int .i64 (o.getD 0), .bool o.isSome]
set_option maxHeartbeats 2000000 in
theorem item14_any (k a b n : Int) (s t u : List UInt8) (w : World) : Calls Tryz.prog 8 #[.agg (evV k a b n s t u)] w fun e w' => e = .returned (itV (itemO k a)) ∧ Below w.heap.size w w' := by
  simp only [evV]
  by_cases hk : k = 7 ∨ k = 8 ∨ k = 9 ∨ k = 10
  · have HV : Hid (itemO k a = some a) := Lib.hid (by unfold itemO; rw [if_pos hk])
    rcases hk with rfl | rfl | rfl | rfl
    all_goals
      go_enter Tryz.func8, Tryz.ntmps8
      go_wp2_with fail
      go_ret2
      rw [HV.out]
      exact ⟨rfl, bel_alloc (Below.refl _ _) _⟩
  · have HV : Hid (itemO k a = none) := Lib.hid (by unfold itemO; rw [if_neg hk])
    have d7 : (k == 7) = false := by simp; omega
    have d8 : (k == 8) = false := by simp; omega
    have d9 : (k == 9) = false := by simp; omega
    have d10 : (k == 10) = false := by simp; omega
    go_enter Tryz.func8, Tryz.ntmps8
    go_wp2_with fail
    go_ret2
    rw [HV.out]
    exact ⟨rfl, bel_alloc (Below.refl _ _) _⟩
set_option maxHeartbeats 2000000 in
theorem refItem14_any (k a b n : Int) (s t u : List UInt8) (w : World) : Calls Tryz.prog 9 #[.agg (evV k a b n s t u)] w fun e w' => e = .returned (itV (itemO k a)) ∧ Below w.heap.size w w' := by
  simp only [evV]
  by_cases hk : k = 7 ∨ k = 8 ∨ k = 9 ∨ k = 10
  · have HV : Hid (itemO k a = some a) := Lib.hid (by unfold itemO; rw [if_pos hk])
    rcases hk with rfl | rfl | rfl | rfl
    all_goals
      go_enter Tryz.func9, Tryz.ntmps9
      go_wp2_with fail
      go_ret2
      rw [HV.out]
      exact ⟨rfl, bel_alloc (Below.refl _ _) _⟩
  · have HV : Hid (itemO k a = none) := Lib.hid (by unfold itemO; rw [if_neg hk])
    have d7 : (k == 7) = false := by simp; omega
    have d8 : (k == 8) = false := by simp; omega
    have d9 : (k == 9) = false := by simp; omega
    have d10 : (k == 10) = false := by simp; omega
    go_enter Tryz.func9, Tryz.ntmps9
    go_wp2_with fail
    go_ret2
    rw [HV.out]
    exact ⟨rfl, bel_alloc (Below.refl _ _) _⟩
end Go.Proofs.YtchcedoaiihnmaaGreatDoor
