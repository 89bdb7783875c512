/-
  NumTexts: the walk.
-/
import Derived.Test.YtgklbejnbplbgaaNumL
namespace Go.Proofs.Ytgklbejnbplbgaa
open Go.RowKit Go.Nst
set_option maxRecDepth 100000
set_option linter.unusedVariables false

theorem text_read (l b : List UInt8) (h : l.length ≤ 65536) : RS.text ⟨textL l ++ b, false⟩ = (l, ⟨b, false⟩) := by
  have hm : mayB (l.length : Int) = true := by rw [mayB_iff]; omega
  have hg : getL (textL l ++ b) = some ((l.length : Int), (putL (zig l.length)).length) := by
    unfold textL
    rw [List.append_assoc]
    exact get_put hm _
  have hn : RS.num ⟨textL l ++ b, false⟩ = ((l.length : Int), ⟨l ++ b, false⟩) := by
    unfold RS.num
    rw [if_neg (by simp)]
    simp only [hg]
    congr 2
    unfold textL
    rw [List.append_assoc, List.drop_left]
  unfold RS.text
  rw [hn]
  simp only
  rw [if_neg (by omega)]
  unfold RS.take
  rw [if_neg (by simp; omega)]
  simp

set_option maxHeartbeats 2000000 in
theorem numTexts_core (l : List UInt8) (n : Nat) (s : Nat) (w : World) (hl : l.length = n) (hn : n ≤ 9223372036854775807) (hs : s < 4294967296) :
    Calls Try.prog 5 #[.string ⟨l.toArray⟩, .int .u32 s] w (RetTrue w) := by
  have hsz : (ByteArray.mk l.toArray).size = n := by simpa [ByteArray.size] using hl
  have HL := Lib.hid hl
  clear hl
  by_cases h7 : 70000 < n
  · go_enter Try.func5, Try.ntmps5
    go_wp2_with fail
    refine (lives01_any w).mono ?_
    rintro e w1 ⟨rfl, hb⟩
    go_wp2_with fail
    go_ret
    exact ⟨rfl, hb⟩
  have d1 : decide (70000 < (n : Int)) = false := by simp; omega
  by_cases h6 : 65536 < n
  · go_enter Try.func5, Try.ntmps5
    go_wp2_with fail
    refine (text_long l n HL.out hn h6 w).mono ?_
    rintro e w1 ⟨rfl, rfl⟩
    go_wp2_with fail
    refine wp_region_seq (by kernel_rfl) [(0, false), (1, true), (2, true), (3, true), (6, true), (4, false), (5, true), (7, false), (8, true), (9, true), (10, true)] (by kernel_rfl) rfl (by kernel_rfl) ?_
    intro v0 hv0
    refine wpSeq_exec (o := ⟨_, _, _, _, _, _⟩) rfl rfl (fun K hK => ?_)
    go_simp
    refine (lives01_any v0).mono ?_
    rintro e v1 ⟨rfl, hv1⟩
    go_wp2_with fail
    refine hK _ _ hv1 ?_
    clear hK K
    have V1 := bel_step hv0 hv1
    iterate 4 (refine wpSeq_take (o := ⟨_, _, _, _, _, _⟩) (v := ?_) rfl rfl ?_ ?_; rotate_left; (focus (intro W hW; go_simp; first | done | with_reducible rfl)); simp only [Act.put, List.setIfInBounds_toArray, List.set_cons_zero, List.set_cons_succ])
    refine wpSeq_exec (o := ⟨_, _, _, _, _, _⟩) rfl rfl (fun K hK => ?_)
    go_simp
    refine (word_any s hs v1).mono ?_
    rintro e v2 ⟨vA2, vn2, vc2, rfl, vo2, hv2⟩
    go_wp2_with fail
    refine hK _ _ hv2 ?_
    clear hK K
    have V2 := bel_step V1 hv2
    have kv2 := fun W (hb : Below v2.heap.size v2 W) => (vo2.bs.below hb).str (P := Try.prog) 22 9 5 vc2 Try.underlying22 Try.underlying5 Try.underlying9
    iterate 1 (refine wpSeq_take (o := ⟨_, _, _, _, _, _⟩) (v := ?_) rfl rfl ?_ ?_; rotate_left; (focus (intro W hW; go_simp; first | done | with_reducible rfl)); simp only [Act.put, List.setIfInBounds_toArray, List.set_cons_zero, List.set_cons_succ])
    refine wpSeq_exec (o := ⟨_, _, _, _, _, _⟩) rfl rfl (fun K hK => ?_)
    go_simp
    refine (refWord_any s hs v2).mono ?_
    rintro e w4 ⟨vA3, vn3, vc3, rfl, vo3, hv3⟩
    go_wp2_with fail
    refine hK _ _ hv3 ?_
    clear hK K
    have B4 : Below w.heap.size w w4 := bel_step V2 hv3
    have kv3 := fun W (hb : Below w4.heap.size w4 W) => (vo3.bs.below hb).str (P := Try.prog) 22 9 5 vc3 Try.underlying22 Try.underlying5 Try.underlying9
    iterate 3 (refine wpSeq_take (o := ⟨_, _, _, _, _, _⟩) (v := ?_) rfl rfl ?_ ?_; rotate_left; (focus (intro W hW; go_simp; first | done | with_reducible rfl)); simp only [Act.put, List.setIfInBounds_toArray, List.set_cons_zero, List.set_cons_succ])
    refine wpSeq_nil ?_
    clear kv2 kv3 V1 V2 hv0 hv1 hv2 hv3 vo2 vo3
    go_wp2_with fail
    go_ret
    exact ⟨rfl, B4⟩
  · have HR := Lib.hid (text_read l [200] (by rw [HL.out]; omega))
    have HT := Lib.hid (show (textL l).length ≤ n + 11 by unfold textL; rw [List.length_append, HL.out]; have := (putL_len (zig (n : Int))).2; omega)
    have Ht := Lib.hid (text_any l n HL.out (by omega) w)
    have Hr := Lib.hid (fun W => refText1_any l n HL.out (by omega) W)
    generalize textL l = tl at *
    go_enter Try.func5, Try.ntmps5
    go_wp2_with fail
    refine Ht.out.mono ?_
    rintro e w1 ⟨A1, n1, c1, rfl, ho1, hb1⟩
    have hn1 : n1 ≤ 70000 := by rw [← ho1.len]; have := HT.out; omega
    go_wp2_with fail
    refine wp_region_seq (by kernel_rfl) [(0, false), (1, true), (2, true), (3, true), (6, true), (4, false), (5, true), (7, false), (8, true), (9, true), (10, true)] (by kernel_rfl) rfl (by kernel_rfl) ?_
    intro v0 hv0
    refine wpSeq_exec (o := ⟨_, _, _, _, _, _⟩) rfl rfl (fun K hK => ?_)
    go_simp
    refine (lives01_any v0).mono ?_
    rintro e v1 ⟨rfl, hv1⟩
    go_wp2_with fail
    refine hK _ _ hv1 ?_
    clear hK K
    have V1 := bel_step hv0 hv1
    iterate 4 (refine wpSeq_take (o := ⟨_, _, _, _, _, _⟩) (v := ?_) rfl rfl ?_ ?_; rotate_left; (focus (intro W hW; go_simp; first | done | with_reducible rfl)); simp only [Act.put, List.setIfInBounds_toArray, List.set_cons_zero, List.set_cons_succ])
    refine wpSeq_exec (o := ⟨_, _, _, _, _, _⟩) rfl rfl (fun K hK => ?_)
    go_simp
    refine (word_any s hs v1).mono ?_
    rintro e v2 ⟨vA2, vn2, vc2, rfl, vo2, hv2⟩
    go_wp2_with fail
    refine hK _ _ hv2 ?_
    clear hK K
    have V2 := bel_step V1 hv2
    have kv2 := fun W (hb : Below v2.heap.size v2 W) => (vo2.bs.below hb).str (P := Try.prog) 22 9 5 vc2 Try.underlying22 Try.underlying5 Try.underlying9
    iterate 1 (refine wpSeq_take (o := ⟨_, _, _, _, _, _⟩) (v := ?_) rfl rfl ?_ ?_; rotate_left; (focus (intro W hW; go_simp; first | done | with_reducible rfl)); simp only [Act.put, List.setIfInBounds_toArray, List.set_cons_zero, List.set_cons_succ])
    refine wpSeq_exec (o := ⟨_, _, _, _, _, _⟩) rfl rfl (fun K hK => ?_)
    go_simp
    refine (refWord_any s hs v2).mono ?_
    rintro e w4 ⟨vA3, vn3, vc3, rfl, vo3, hv3⟩
    go_wp2_with fail
    refine hK _ _ hv3 ?_
    clear hK K
    have B4 : Below w1.heap.size w1 w4 := bel_step V2 hv3
    have kv3 := fun W (hb : Below w4.heap.size w4 W) => (vo3.bs.below hb).str (P := Try.prog) 22 9 5 vc3 Try.underlying22 Try.underlying5 Try.underlying9
    iterate 3 (refine wpSeq_take (o := ⟨_, _, _, _, _, _⟩) (v := ?_) rfl rfl ?_ ?_; rotate_left; (focus (intro W hW; go_simp; first | done | with_reducible rfl)); simp only [Act.put, List.setIfInBounds_toArray, List.set_cons_zero, List.set_cons_succ])
    refine wpSeq_nil ?_
    clear kv2 kv3 V1 V2 hv0 hv1 hv2 hv3 vo2 vo3
    have ho1 := ho1.below B4
    have B4 := bel_step hb1 B4
    clear hb1
    have hO2 := ho1.below (bel_alloc (Below.refl _ _) (.cells #[.int .u8 200] 5))
    have hB2 := Bs.const w4 [200] #[.int .u8 200] 5 (0, 0) 1 rfl rfl
    have hbs := B4.size
    go_wp2_with (at_builtin; refine wpList_appK _ iBytes rfl rfl rfl hO2 rfl hB2 (n1 + 1) (tl ++ [200]) rfl rfl (by omega) (by simp; omega) ?_; intro A5 c5 w5 ho5 hb5 hq5)
    have B5 : Below w.heap.size w w5 := (B4.alloc B4.size _).trans hb5
    clear hb5 hO2 hB2 ho1
    refine (from_any A5 (n1 + 1) c5 (tl ++ [200]) w5 (by omega) ho5.bs).mono ?_
    rintro e w6 ⟨g, rfl, hR6, hg6, hb6⟩
    have q6 := hq5.below hb6
    have B6 := bel_step B5 hb6
    have hgw : w.heap.size ≤ g := Nat.le_trans B5.size hg6
    obtain ⟨rA, rn, rc, hblk, _⟩ := (show Rd w6 g _ from hR6)
    have ap6 := Rd.apart hblk q6
    clear hblk hq5 ho5 hb6
    have ks := fun W (hb : Onl g w6 W) => (q6.only hb ap6).str (P := Try.prog) 22 9 5 c1 Try.underlying22 Try.underlying5 Try.underlying9
    go_wp2_with fail
    refine wp_region_seqD (Onl g) (Onl.refl g) Onl.trans (by kernel_rfl) [(0, true), (1, true), (2, true), (3, true), (4, true), (5, true), (6, false), (7, true), (8, true), (9, true), (10, true), (11, true), (12, true), (13, true), (14, true), (15, true), (17, true), (16, false), (18, true), (19, true), (20, true), (21, true), (22, false), (23, true), (24, true), (25, true), (26, true), (27, false), (28, true), (29, true), (30, true)] (by kernel_rfl) rfl (by kernel_rfl) ?_
    have hb7 : Onl g w6 w6.drew := only_drew (World.grownBy.refl _ _)
    have hR7 : Rd w6.drew g ⟨tl ++ [200], false⟩ := hR6
    generalize w6.drew = w7 at *
    have tr7 : ∀ W, Onl g w7 W → Onl g w6 W := fun W h => Onl.trans _ _ _ hb7 h
    iterate 6 (refine wpSeqR_take (o := ⟨_, _, _, _, _, _⟩) (v := ?_) rfl rfl ?_ ?_; rotate_left; (focus (intro W hW; go_simp; first | done | with_reducible rfl)); simp only [Act.put, List.setIfInBounds_toArray, List.set_cons_zero, List.set_cons_succ])
    refine wpSeqR_exec (o := ⟨_, _, _, _, _, _⟩) rfl rfl (fun K hK => ?_)
    go_simp
    refine (Hr.out w7).mono ?_
    rintro e w8 ⟨A8, n8, c8, rfl, ho8, hb8⟩
    go_wp2_with fail
    have hR8 : Rd w8 g ⟨tl ++ [200], false⟩ := RdT.below hR7 hb8
    have hb8 : Onl g w7 w8 := only_of_below hb8 _
    refine hK _ _ hb8 ?_
    clear hK K
    have S8 : Onl g w6 w8 := Onl.trans _ _ _ hb7 hb8
    obtain ⟨rA, rn, rc, hblk, _⟩ := (show Rd w8 g _ from hR8)
    have ap8 := Rd.apart hblk ho8.bs
    clear hblk
    have ks8 := fun W (hb : Onl g w8 W) => (ho8.bs.only hb ap8).str (P := Try.prog) 22 9 5 c8 Try.underlying22 Try.underlying5 Try.underlying9
    have tr8 : ∀ W, Onl g w8 W → Onl g w6 W := fun W h => Onl.trans _ _ _ S8 h
    iterate 10 (refine wpSeqR_take (o := ⟨_, _, _, _, _, _⟩) (v := ?_) rfl rfl ?_ ?_; rotate_left; (focus (intro W hW; go_simp; first | done | with_reducible rfl)); simp only [Act.put, List.setIfInBounds_toArray, List.set_cons_zero, List.set_cons_succ])
    refine wpSeqR_exec (o := ⟨_, _, _, _, _, _⟩) rfl rfl (fun K hK => ?_)
    go_simp
    refine (readText_any g _ w8 hR8).mono ?_
    rw [HR.out]
    rintro e w9 ⟨rfl, hR9, hb9⟩
    go_wp2_with fail
    refine hK _ _ hb9 ?_
    clear hK K
    have S9 : Onl g w6 w9 := Onl.trans _ _ _ S8 hb9
    iterate 4 (refine wpSeqR_take (o := ⟨_, _, _, _, _, _⟩) (v := ?_) rfl rfl ?_ ?_; rotate_left; (focus (intro W hW; go_simp; first | done | with_reducible rfl)); simp only [Act.put, List.setIfInBounds_toArray, List.set_cons_zero, List.set_cons_succ])
    refine wpSeqR_exec (o := ⟨_, _, _, _, _, _⟩) rfl rfl (fun K hK => ?_)
    go_simp
    refine (left_any g _ w9 hR9).mono ?_
    rintro e w10 ⟨rfl, rfl⟩
    go_wp2_with fail
    refine hK _ _ (Onl.refl _ _) ?_
    clear hK K
    simp only [RS.left, List.length_cons, List.length_nil, Bool.false_eq_true, if_false]
    iterate 4 (refine wpSeqR_take (o := ⟨_, _, _, _, _, _⟩) (v := ?_) rfl rfl ?_ ?_; rotate_left; (focus (intro W hW; go_simp; first | done | with_reducible rfl)); simp only [Act.put, List.setIfInBounds_toArray, List.set_cons_zero, List.set_cons_succ])
    refine wpSeqR_exec (o := ⟨_, _, _, _, _, _⟩) rfl rfl (fun K hK => ?_)
    go_simp
    refine (bad_any g _ w9 hR9).mono ?_
    rintro e w10 ⟨rfl, rfl⟩
    go_wp2_with fail
    refine hK _ _ (Onl.refl _ _) ?_
    clear hK K
    iterate 3 (refine wpSeqR_take (o := ⟨_, _, _, _, _, _⟩) (v := ?_) rfl rfl ?_ ?_; rotate_left; (focus (intro W hW; go_simp; first | done | with_reducible rfl)); simp only [Act.put, List.setIfInBounds_toArray, List.set_cons_zero, List.set_cons_succ])
    refine wpSeqR_nil ?_
    go_wp2_with fail
    go_ret
    exact ⟨rfl, below_only B6 S9 hgw B6.size⟩

theorem numTexts_walk (s : ByteArray) (x : Nat) (w : World) (hs : s.size ≤ maxLen) (hx : x < 4294967296) : Calls Try.prog 5 #[.string s, .int .u32 x] w (RetTrue w) := by
  obtain ⟨⟨l⟩⟩ := s
  exact numTexts_core l l.length x w rfl (by simpa [ByteArray.size, maxLen] using hs) hx
end Go.Proofs.Ytgklbejnbplbgaa
