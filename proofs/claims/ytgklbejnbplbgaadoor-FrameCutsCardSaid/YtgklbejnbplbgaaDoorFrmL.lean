/-
  The run with which each statement on frames begins.
-/
import Derived.Test.YtgklbejnbplbgaaDoorFrmC
namespace Go.Proofs.YtgklbejnbplbgaaDoor
open Go.RowKit Go.Nst
set_option maxRecDepth 100000
set_option linter.unusedVariables false
set_option linter.unusedSimpArgs false

theorem ow_cap63 {w : World} {base n c : Nat} {A : Option Addr} {l : List UInt8} (h : Ow w base A n c l) : c ≤ 9223372036854775807 := by
  rcases h.2 with ⟨e, rfl⟩ | ⟨g, cap, cur, hv, hg, hh, hnc, hcm, r⟩
  · injection e with _ _ e; omega
  · injection hv with _ _ e; unfold maxLen at hcm; omega
theorem l17_put : putE [7] = ([2, 7, 46, 122, 102, 76], 0) := by decide +kernel
theorem l17_no : putE [] = ([], 1) := by decide +kernel
theorem l17_whole : nextL [2, 7, 46, 122, 102, 76, 1] = ([7], 6, 1) := by decide +kernel
theorem l17_torn : nextL [2, 7, 46, 122, 102] = ([], 0, 2) := by decide +kernel
theorem l17_bad : nextL [0] = ([], 0, 3) := by decide +kernel
theorem l17_scan : scanL [2, 7, 46, 122, 102, 76, 2] = ([[7]], 6, 2) := by decide +kernel
theorem l17_size : sizeN 1 = 6 := by decide +kernel

set_option maxHeartbeats 4000000 in
theorem lives17_any (w : World) (ht : Tab w) : Calls Tryd.prog 21 #[] w (RetTrue w) := by
  go_enter Tryd.func21, Tryd.ntmps21
  go_wp2_with fail
  refine (put17_any _ 1 _ [7] _ (by omega) (Bs.const w _ _ _ _ _ rfl rfl) (ht.below (bel_alloc (Below.refl _ _) _))).mono ?_
  rw [l17_put]
  rintro e w1 ⟨A1, n1, c1, rfl, ho1, hb⟩
  have B1 := bel_step (bel_alloc (Below.refl w.heap.size w) _) hb
  have hn1 : 6 = n1 := by have := ho1.len; simpa using this
  clear hb
  subst hn1
  have hc1 := ho1.cap
  have hc63 := ow_cap63 ho1
  obtain ⟨u1, b1, f1, rfl, hu1, _, cc0, _⟩ := ho1.bs.at (k := 0) (by omega)
  have q1 := ho1.bs
  clear hu1 cc0 ho1
  go_wp2_with fail
  refine (put17_any none 0 0 [] w1 (by omega) Bs.nil (ht.below B1)).mono ?_
  rw [l17_no]
  rintro e w2 ⟨A2, n2, c2, rfl, ho2, hb⟩
  have B2 := bel_step B1 hb
  have q1 := q1.below hb
  clear hb ho2
  have hO : Ow (w2.alloc (.cells #[] 5)) w2.heap.size (some ⟨w2.heap.size, 0, none⟩) 0 0 [] := Ow.made w2 [] #[] rfl (by simp [maxLen]) (Nat.le_refl _)
  have qa := q1.alloc (.cells #[] 5)
  go_wp2_with (first
    | (at_builtin; have _t := hO; refine wpList_appBg _ iBytes rfl rfl rfl hO rfl qa 6 _ (by simp) rfl (by omega) (by simp) ?_; intro A3 c3 w3 ho3 hb _ _; clear hO _t; have hb3 : Below w2.heap.size w2 w3 := ((Below.refl _ _).alloc (Nat.le_refl _) _).trans hb; clear hb; have hs3 := hb3.size; have ho3 := ho3.below (bel_alloc (Below.refl _ _) (.cells #[.int .u8 1] 5)); have qq := Bs.const w3 [1] #[.int .u8 1] 5 (0, 0) 1 rfl rfl)
    | (at_builtin; refine wpList_appBg _ iBytes rfl rfl rfl ho3 rfl qq 7 _ rfl rfl (by omega) (by simp; omega) ?_; intro A4 c4 w4 ho4 hb4 _ _))
  have B4 : Below w.heap.size w w4 := bel_step B2 ((hb3.alloc hs3 _).trans hb4)
  have q1 := q1.below ((hb3.alloc hs3 _).trans hb4)
  clear ho3 hb3 hb4 qa qq hs3
  refine (next17_any A4 7 c4 [2, 7, 46, 122, 102, 76, 1] w4 (by omega) ho4.cap (ow_cap63 ho4) ho4.bs (ht.below B4)).mono ?_
  rw [l17_whole]
  rintro e w5 ⟨A5, n5, c5, rfl, ho5, hb⟩
  have B5 := bel_step B4 hb
  have q1 := q1.below hb
  have q5 := ho5.bs
  clear hb ho4 ho5
  have b5 : (5 : Int) ≤ (c1 : Int) := by omega
  have hcap : (c1 : Int) ≤ (c1 : Int) := by omega
  go_wp2_with fail
  refine (next17_any (some ⟨b1, f1, none⟩) 5 c1 [2, 7, 46, 122, 102] w5 (by omega) (by omega) (by omega) (q1.upto (k := 5) (by omega)) (ht.below B5)).mono ?_
  rw [l17_torn]
  rintro e w6 ⟨A6, n6, c6, rfl, ho6, hb⟩
  have B6 := bel_step B5 hb
  have q1 := q1.below hb
  have q5 := q5.below hb
  clear hb ho6
  go_wp2_with fail
  refine (next17_any _ 1 1 [0] _ (by omega) (by omega) (by omega) (Bs.const w6 _ _ _ _ _ rfl rfl) (ht.below (bel_alloc B6 _))).mono ?_
  rw [l17_bad]
  rintro e w7 ⟨A7, n7, c7, rfl, ho7, hb⟩
  have hb := bel_step (bel_alloc (Below.refl w6.heap.size w6) _) hb
  have B7 := bel_step B6 hb
  have q1 := q1.below hb
  have q5 := q5.below hb
  clear hb ho7
  have hO : Ow (w7.alloc (.cells #[] 5)) w7.heap.size (some ⟨w7.heap.size, 0, none⟩) 0 0 [] := Ow.made w7 [] #[] rfl (by simp [maxLen]) (Nat.le_refl _)
  have qa := q1.alloc (.cells #[] 5)
  go_wp2_with (first
    | (at_builtin; have _t := hO; refine wpList_appBg _ iBytes rfl rfl rfl hO rfl qa 6 _ (by simp) rfl (by omega) (by simp) ?_; intro A8 c8 w8 ho8 hb _ _; clear hO _t; have hb8 : Below w7.heap.size w7 w8 := ((Below.refl _ _).alloc (Nat.le_refl _) _).trans hb; clear hb; have hs8 := hb8.size; have ho8 := ho8.below (bel_alloc (Below.refl _ _) (.cells #[.int .u8 2] 5)); have qq := Bs.const w8 [2] #[.int .u8 2] 5 (0, 0) 1 rfl rfl)
    | (at_builtin; refine wpList_appBg _ iBytes rfl rfl rfl ho8 rfl qq 7 _ rfl rfl (by omega) (by simp; omega) ?_; intro A9 c9 w9 ho9 hb9 _ _))
  have S9 : Below w7.heap.size w7 w9 := (hb8.alloc hs8 _).trans hb9
  have B9 := bel_step B7 S9
  have q1 := q1.below S9
  have q5 := q5.below S9
  clear ho8 hb8 hb9 qa qq hs8 S9
  refine (scan17_any A9 7 c9 [2, 7, 46, 122, 102, 76, 2] w9 (by omega) ho9.cap (ow_cap63 ho9) ho9.bs (ht.below B9)).mono ?_
  rw [l17_scan]
  rintro e w10 ⟨A10, n10, c10, ps, rfl, hP, hpl, hb⟩
  have hn10 : 1 = n10 := by rw [← hP.len]; have := congrArg List.length hpl; simpa using this.symm
  subst hn10
  have B10 := bel_step B9 hb
  have q1 := q1.below hb
  have q5 := q5.below hb
  clear hb ho9 hP hpl
  obtain ⟨v0, b0, g0, e0, hv0, _, cc0, _⟩ := q1.at (k := 0) (by omega)
  obtain ⟨v1, b9, g9, e9, hv1, _, cc1, _⟩ := q1.at (k := 1) (by omega)
  injection e0 with e0
  injection e0 with e01 e02
  injection e9 with e9
  injection e9 with e91 e92
  subst e01 e02 e91 e92
  have hv0 := hv0.out
  have hv1 := hv1.out
  simp at hv0 hv1
  subst hv0 hv1
  rw [Nat.add_zero] at cc0
  have cc0 : w10.cell? ⟨b1, f1, none⟩ = some (.int .u8 2) := cc0
  have cc1 : w10.cell? ⟨b1, f1 + 1, none⟩ = some (.int .u8 7) := cc1
  have ks5 := q5.str (P := Tryd.prog) 22 9 5 c5 Tryd.underlying22 Tryd.underlying5 Tryd.underlying9
  clear q1 q5
  go_wp2_with fail
  refine (size17_any 1 w10).mono ?_
  rw [l17_size]
  rintro e w11 ⟨rfl, hb⟩
  have B11 := bel_step B10 hb
  go_wp2_with fail
  go_ret
  exact ⟨rfl, B11⟩
end Go.Proofs.YtgklbejnbplbgaaDoor
