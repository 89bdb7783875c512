/-
  The run with which each statement on texts of runes begins.
-/
import Derived.Test.YtleachcokgjocaaUtfK
import Derived.Test.YtleachcokgjocaaUtfF
namespace Go.Proofs.Ytleachcokgjocaa
open Go.RowKit Go.Nst
set_option maxRecDepth 100000
set_option linter.unusedVariables false
set_option linter.unusedSimpArgs false

theorem bl_of (l : List UInt8) : bl ⟨l.toArray⟩ = l := by simp [bl]
theorem size_of (l : List UInt8) : (ByteArray.mk l.toArray).size = l.length := by simp [ByteArray.size]
theorem clean_l (l : List UInt8) (w : World) (hl : l.length ≤ 1000000) : Calls Try.prog 18 #[.string ⟨l.toArray⟩] w (RetS w (cleanT l)) := by
  have := clean_any ⟨l.toArray⟩ w (by rw [size_of]; exact hl)
  rwa [bl_of] at this
theorem fold_l (l : List UInt8) (w : World) (hl : l.length ≤ 1000000) : Calls Try.prog 19 #[.string ⟨l.toArray⟩] w (RetS w (foldT l)) := by
  have := fold_any5 ⟨l.toArray⟩ w (by rw [size_of]; exact hl)
  rwa [bl_of] at this
theorem right_l (l : List UInt8) (w : World) (hl : l.length ≤ 1000000) (b : Bool) (hb : rightL l = b) : Calls Try.prog 12 #[.string ⟨l.toArray⟩] w fun e w' => e = .returned (.bool b) ∧ Below w.heap.size w w' := by
  have := right_any ⟨l.toArray⟩ w (by rw [size_of]; exact hl)
  rwa [bl_of, hb] at this
theorem runes_l (l : List UInt8) (w : World) (hl : l.length ≤ 1000000) (rs : List Int) (hr : runesI l = rs) : Calls Try.prog 10 #[.string ⟨l.toArray⟩] w (RetRn w rs) := by
  have := runes_any ⟨l.toArray⟩ w (by rw [size_of]; exact hl)
  rwa [bl_of, hr] at this
theorem count_l (l : List UInt8) (w : World) (hl : l.length ≤ 1000000) (k : Nat) (hk : (runesL l).length = k) : Calls Try.prog 11 #[.string ⟨l.toArray⟩] w fun e w' => e = .returned (.int .i64 (k : Int)) ∧ Below w.heap.size w w' := by
  have := count_any ⟨l.toArray⟩ w (by rw [size_of]; exact hl)
  rwa [bl_of, hk] at this
theorem cut_l (l : List UInt8) (n : Int) (w : World) (hl : l.length ≤ 1000000) (h0 : -9223372036854775808 ≤ n) (h1 : n ≤ 9223372036854775807) : Calls Try.prog 22 #[.string ⟨l.toArray⟩, .int .i64 n] w (RetS w (cutT l n)) := by
  have := cut_any ⟨l.toArray⟩ n w (by rw [size_of]; exact hl) h0 h1
  rwa [bl_of] at this
theorem same_l (A A2 : Option Addr) (n c n2 c2 : Nat) (l : List Int) (w : World) (h1 : Rn w A n l) (h2 : Rn w A2 n2 l) (hn : n ≤ 1000000) (hn2 : n2 ≤ 1000000) :
    Calls Try.prog 9 #[.slice A n c, .slice A2 n2 c2] w fun e w' => e = .returned (.bool true) ∧ Below w.heap.size w w' := by
  have := same_any A A2 n c n2 c2 l l w h1 h2 hn hn2
  rwa [beq_self_eq_true] at this

theorem l5_clean : cleanT [32, 97, 9, 10, 32, 98, 0, 32] = [97, 32, 98] := by decide +kernel
theorem l5_fold : foldT [195, 132, 66, 208, 150] = [195, 164, 98, 208, 182] := by decide +kernel
theorem l5_right : rightL [195, 164] = true := by decide +kernel
theorem l5_wrong : rightL [255] = false := by decide +kernel
theorem l5_runes : runesI [97, 255] = [97, 65533] := by decide +kernel
theorem l5_put : putR [97, 8364] = [97, 226, 130, 172] := by decide +kernel
theorem l5_count : (runesL [226, 130, 172, 49]).length = 2 := by decide +kernel
theorem l5_cut3 : cutT [226, 130, 172, 49] 3 = [226, 130, 172] := by decide +kernel
theorem l5_cut2 : cutT [226, 130, 172, 49] 2 = [] := by decide +kernel

set_option maxHeartbeats 4000000 in
theorem lives05_any (w : World) : Calls Try.prog 7 #[] w (RetTrue w) := by
  go_enter Try.func7, Try.ntmps7
  go_wp2_with fail
  refine (clean_l [32, 97, 9, 10, 32, 98, 0, 32] w (by decide)).mono ?_
  rw [l5_clean]
  rintro e w1 ⟨rfl, B1⟩
  go_wp2_with fail
  refine (fold_l [195, 132, 66, 208, 150] w1 (by decide)).mono ?_
  rw [l5_fold]
  rintro e w2 ⟨rfl, hb⟩
  have B2 := bel_step B1 hb
  clear hb
  go_wp2_with fail
  refine (right_l [195, 164] w2 (by decide) _ l5_right).mono ?_
  rintro e w3 ⟨rfl, hb⟩
  have B3 := bel_step B2 hb
  clear hb
  go_wp2_with fail
  refine (right_l [255] w3 (by decide) _ l5_wrong).mono ?_
  rintro e w4 ⟨rfl, hb⟩
  have B4 := bel_step B3 hb
  clear hb
  go_wp2_with fail
  refine (runes_l [97, 255] w4 (by decide) _ l5_runes).mono ?_
  rintro e w5 ⟨A5, n5, c5, rfl, ho5, hb⟩
  have B5 := bel_step B4 hb
  have hn5 := ho5.rn.len
  simp only [List.length_cons, List.length_nil] at hn5
  have q5 := ho5.rn
  clear hb ho5
  subst hn5
  go_wp2_with fail
  refine (same_l A5 _ _ _ _ _ [97, 65533] _ (q5.below (bel_alloc (Below.refl _ _) _)) (Rn.const w5 _ _ _ _ _ rfl rfl) (by decide) (by decide)).mono ?_
  rintro e w6 ⟨rfl, hb⟩
  have B6 := bel_step (bel_alloc B5 _) hb
  clear hb q5
  go_wp2_with fail
  refine (put5_any _ _ _ [97, 8364] _ (Rn.const w6 _ _ _ _ _ rfl rfl) (by intro z hz; simp at hz; omega) (by decide)).mono ?_
  rw [l5_put]
  rintro e w7 ⟨rfl, hb⟩
  have B7 := bel_step (bel_alloc B6 _) hb
  clear hb
  go_wp2_with fail
  refine (count_l [226, 130, 172, 49] w7 (by decide) _ l5_count).mono ?_
  rintro e w8 ⟨rfl, hb⟩
  have B8 := bel_step B7 hb
  clear hb
  go_wp2_with fail
  refine (cut_l [226, 130, 172, 49] 3 w8 (by decide) (by decide) (by decide)).mono ?_
  rw [l5_cut3]
  rintro e w9 ⟨rfl, hb⟩
  have B9 := bel_step B8 hb
  clear hb
  go_wp2_with fail
  refine (cut_l [226, 130, 172, 49] 2 w9 (by decide) (by decide) (by decide)).mono ?_
  rw [l5_cut2]
  rintro e w10 ⟨rfl, hb⟩
  have B10 := bel_step B9 hb
  clear hb
  go_wp2_with fail
  refine (blank_yes 12288 w10 (by decide)).mono ?_
  rintro e w11 ⟨rfl, rfl⟩
  go_wp2_with fail
  go_ret
  exact ⟨rfl, B10⟩
end Go.Proofs.Ytleachcokgjocaa
