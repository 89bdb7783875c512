/-
  The run with which each statement on numbers begins.
-/
import Derived.Test.YtgklbejnbplbgaaNumJ
import Derived.Test.YtgklbejnbplbgaaRead3
import Derived.Test.YtgklbejnbplbgaaSeq
namespace Go.Proofs.Ytgklbejnbplbgaa
open Go.RowKit Go.Nst
set_option maxRecDepth 100000
set_option linter.unusedVariables false

theorem lv_put1 : putL (zig (-1)) = [1] := by decide +kernel
theorem lv_put64 : putL (zig 64) = [128, 1] := by decide +kernel
theorem lv_get1 : getL [128, 1, 9] = some (64, 2) := by decide +kernel
theorem lv_get2 : getL [128, 0] = none := by decide +kernel
theorem lv_text : textL [97, 98] = [4, 97, 98] := by decide +kernel
theorem lv_rtext : RS.text ⟨[4, 97, 98, 7, 1, 2, 3, 4], false⟩ = ([97, 98], ⟨[7, 1, 2, 3, 4], false⟩) := by rfl
theorem lv_rbyte : RS.byte ⟨[7, 1, 2, 3, 4], false⟩ = (7, ⟨[1, 2, 3, 4], false⟩) := by rfl
theorem lv_rword : RS.word ⟨[1, 2, 3, 4], false⟩ = (67305985, ⟨[], false⟩) := by rfl
theorem lv_rnum : RS.num ⟨[], false⟩ = (0, ⟨[], true⟩) := by rfl
theorem lv_word : wordL 1 = [1, 0, 0, 0] := by decide +kernel

set_option maxHeartbeats 2000000 in
theorem lives01_any (w : World) : Calls Try.prog 7 #[] w (RetTrue w) := by
  go_enter Try.func7, Try.ntmps7
  go_wp2_with fail
  refine (put_yes (-1) w (by decide)).mono ?_
  rw [lv_put1]
  rintro e w1 ⟨A1, n1, c1, rfl, ho1, B1⟩
  go_wp2_with fail
  refine (put_yes 64 w1 (by decide)).mono ?_
  rw [lv_put64]
  rintro e w2 ⟨A2, n2, c2, rfl, ho2, hb2⟩
  have B2 := bel_step B1 hb2
  have q1 := ho1.bs.below hb2
  clear ho1 hb2
  go_wp2_with fail
  refine (get_any _ 3 3 [128, 1, 9] _ (by omega) (by omega) (Bs.const w2 _ _ _ _ _ rfl rfl)).mono ?_
  rw [lv_get1]
  rintro e w3 ⟨rfl, hw⟩
  have B3 : Below w2.heap.size w2 w3 := by rw [← hw]; exact bel_alloc (Below.refl _ _) _
  have q1 := q1.below B3
  have q2 := ho2.bs.below B3
  have B3 := bel_step B2 B3
  clear hw ho2
  simp only [gotV]
  go_wp2_with fail
  refine (get_any _ 2 2 [128, 0] _ (by omega) (by omega) (Bs.const w3 _ _ _ _ _ rfl rfl)).mono ?_
  rw [lv_get2]
  rintro e w4 ⟨rfl, hw⟩
  have B4 : Below w3.heap.size w3 w4 := by rw [← hw]; exact bel_alloc (Below.refl _ _) _
  have q1 := q1.below B4
  have q2 := q2.below B4
  have B4 := bel_step B3 B4
  clear hw
  simp only [gotV]
  go_wp2_with fail
  refine (text_any [97, 98] 2 rfl (by omega) w4).mono ?_
  rw [lv_text]
  rintro e w5 ⟨A5, n5, c5, rfl, ho5, hb5⟩
  have B5 := bel_step B4 hb5
  have q1 := q1.below hb5
  have q2 := q2.below hb5
  clear hb5
  go_wp2_with fail
  refine (from_any _ 8 8 [4, 97, 98, 7, 1, 2, 3, 4] _ (by omega) (Bs.const w5 _ _ _ _ _ rfl rfl)).mono ?_
  rintro e w6 ⟨g, rfl, hR6, hg6, hb6⟩
  have hb6 : Below w5.heap.size w5 w6 := bel_step (bel_alloc (Below.refl _ _) _) hb6
  have hg6 : w5.heap.size ≤ g := by have := hg6; simp at this; omega
  have hgw : w.heap.size ≤ g := Nat.le_trans B5.size hg6
  have B6 := bel_step B5 hb6
  have q1 := q1.below hb6
  have q2 := q2.below hb6
  have q5 := ho5.bs.below hb6
  clear hb6 ho5
  have ap1 := fun (A n c) (b : Bool) (h : Blk w6 g 55 #[.slice A n c, .bool b]) => Rd.apart h q1
  go_wp2_with fail
  refine (readText_any g _ w6 hR6).mono ?_
  rw [lv_rtext]
  rintro e w7 ⟨rfl, hR7, hg7⟩
  go_wp2_with fail
  refine (readByte_any g _ w7 hR7).mono ?_
  rw [lv_rbyte]
  rintro e w8 ⟨rfl, hR8, hg8⟩
  go_wp2_with fail
  refine (readWord_any g _ w8 hR8).mono ?_
  rw [lv_rword]
  rintro e w9 ⟨rfl, hR9, hg9⟩
  go_wp2_with fail
  refine (readNum_any g _ w9 hR9).mono ?_
  rw [lv_rnum]
  rintro e w10 ⟨rfl, hR10, hg10⟩
  have hgg : w6.grownBy w10 (some g) := only_trans hg7 (only_trans hg8 (only_trans hg9 hg10))
  obtain ⟨rA, rn, rc, hblk, _⟩ := hR6
  have q1 := q1.only hgg (Rd.apart hblk q1)
  have q2 := q2.only hgg (Rd.apart hblk q2)
  have q5 := q5.only hgg (Rd.apart hblk q5)
  have B10 := below_only B6 hgg hgw B6.size
  clear hblk hgg hg7 hg8 hg9 hg10 hR7 hR8 hR9 ap1
  go_wp2_with fail
  refine (put_no 9007199254740992 w10 (by decide)).mono ?_
  rintro e w11 ⟨rfl, rfl⟩
  have ks1 := q1.str (P := Try.prog) 22 9 5 c1 Try.underlying22 Try.underlying5 Try.underlying9
  have ks2 := q2.str (P := Try.prog) 22 9 5 c2 Try.underlying22 Try.underlying5 Try.underlying9
  have ks5 := q5.str (P := Try.prog) 22 9 5 c5 Try.underlying22 Try.underlying5 Try.underlying9
  go_wp2_with fail
  refine (bad_any g _ w10 hR10).mono ?_
  rintro e w12 ⟨rfl, rfl⟩
  go_wp2_with fail
  refine (word_any 1 (by omega) w10).mono ?_
  rw [lv_word]
  rintro e w13 ⟨A13, n13, c13, rfl, ho13, hb13⟩
  have ks13 := ho13.bs.str (P := Try.prog) 22 9 5 c13 Try.underlying22 Try.underlying5 Try.underlying9
  go_wp2_with fail
  go_ret
  exact ⟨rfl, bel_step B10 hb13⟩
end Go.Proofs.Ytgklbejnbplbgaa
