/-
  Queries' texts and what they lean on, part 26: only what the claims need.
-/
import Derived.Test.YtjjlmkleidbmhaaGreatDoorZ21
import Derived.Test.YtjjlmkleidbmhaaGreatDoorZ22
import Derived.Test.YtjjlmkleidbmhaaGreatDoorZ24
import Derived.Test.YtjjlmkleidbmhaaGreatDoorZ25
import Derived.Tactics2
import Derived.Defers
import Derived.Recover
section
namespace Go.Proofs.YtjjlmkleidbmhaaGreatDoor
open Go.ChangeShapes Go.WideShapes Go.ChangeAt Go.Deep
open Go.RowKit Go.Nst
set_option maxRecDepth 100000
set_option linter.unusedVariables false
set_option linter.unusedSimpArgs false

set_option maxHeartbeats 8000000 in
theorem rterm26_tag (s t : List UInt8) (w : World) (hs : s.length ≤ 512) (d0 : (s == [97, 108, 108]) = false) (d1 : (s == [110, 111, 110, 101]) = false) (d2 : (s == [117, 110, 114, 101, 97, 100]) = false) (d3 : (s == [115, 116, 97, 114, 114, 101, 100]) = false) (m0 : stp pFee s = none) (m1 : stp pFol s = none) (m2 : stp pWit s = none) (m3 : stp pBef s = none) (m4 : stp pSin s = none) (hst : stp pTag s = some t) : Calls Tryz.prog 73 #[.string ⟨s.toArray⟩] w (RetTm (termD s) w) := by
  have HTM : Hid (termD s = chkQ ⟨8, 0, foldT t, []⟩) := Lib.hid (by
    unfold termD
    rw [if_neg (by simpa [tAll] using d0), if_neg (by simpa [tNon] using d1), if_neg (by simpa [tUnr] using d2), if_neg (by simpa [tSta] using d3)]
    simp only [m0, m1, m2, m3, m4, hst])
  have HB0 := Lib.hid (fun W => behind26_no s [102, 101, 101, 100, 58] hs (by decide) m0 W)
  have HB1 := Lib.hid (fun W => behind26_no s [102, 111, 108, 100, 101, 114, 58] hs (by decide) m1 W)
  have HB2 := Lib.hid (fun W => behind26_no s [119, 105, 116, 104, 105, 110, 58] hs (by decide) m2 W)
  have HB3 := Lib.hid (fun W => behind26_no s [98, 101, 102, 111, 114, 101, 58] hs (by decide) m3 W)
  have HB4 := Lib.hid (fun W => behind26_no s [115, 105, 110, 99, 101, 58] hs (by decide) m4 W)
  have HB5 := Lib.hid (fun W => behind26_yes s [116, 97, 103, 58] t hs (by decide) hst W)
  have htl : t.length ≤ 512 := by rw [stp_yes26 hst, List.length_append] at hs; omega
  have ho : i64P 8 := i64P_lit (z := 8) (by omega)
  have hz : (ByteArray.mk t.toArray).size = t.length := size_of t
  have HNUM := Lib.hid (fun W => refFold_any5 ⟨t.toArray⟩ W (by omega))
  simp only [bl_of] at HNUM
  have ht : (foldT t).length ≤ 2048 := by have := foldT_len26 t; omega
  have hn : i64P 0 := i64P_lit (z := 0) (by omega)
  generalize foldT t = ff at *
  have HCK := Lib.hid (fun W => rcheck_leaf 8 0 ff ho hn ht W)
  have HLF : Hid (∀ {W : World}, QAt W (fun b => w.heap.size ≤ b) #[.int .i64 8, .int .i64 0, .string ⟨(ff : List UInt8).toArray⟩, .slice none 0 0] ⟨8, 0, ff, []⟩) := Lib.hid (QAt.leaf ho hn (by omega))
  generalize hbb : okQ ⟨8, 0, ff, []⟩ = b at HCK
  have HBB := Lib.hid hbb
  clear hbb
  generalize termD s = tm at *
  clear m0 m1 m2 m3 m4 hst
  go_enter Tryz.func73, Tryz.ntmps73
  go_wp2_with fail
  go_loop [6] (fun i => ∃ z : Int, i = .int .i64 z ∧ 0 ≤ z ∧ z ≤ 4) (fun i => 5 - (intOf i).toNat)
  case atStart => exact ⟨0, rfl, by omega, by omega⟩
  case round =>
    obtain ⟨z, rfl, hz0, hz1⟩ := hrel
    rcases (by omega : z = 0 ∨ z = 1 ∨ z = 2 ∨ z = 3 ∨ z = 4) with rfl | rfl | rfl | rfl | rfl
    · go_wp2_with fail
      go_round
      case rel => exact ⟨1, by go_num, by omega, by omega⟩
      case measure => simp [intOf]
    · go_wp2_with fail
      go_round
      case rel => exact ⟨2, by go_num, by omega, by omega⟩
      case measure => simp [intOf]
    · go_wp2_with fail
      go_round
      case rel => exact ⟨3, by go_num, by omega, by omega⟩
      case measure => simp [intOf]
    · go_wp2_with fail
      go_round
      case rel => exact ⟨4, by go_num, by omega, by omega⟩
      case measure => simp [intOf]
    · clear d0 d1 d2 d3
      go_wp2_with fail
      go_loop [9] (fun i => ∃ z : Int, i = .int .i64 z ∧ 0 ≤ z ∧ z ≤ 5) (fun i => 9 - (intOf i).toNat)
      case atStart => exact ⟨0, rfl, by omega, by omega⟩
      case round =>
        obtain ⟨z, rfl, hz0, hz1⟩ := hrel
        rcases (by omega : z = 0 ∨ z = 1 ∨ z = 2 ∨ z = 3 ∨ z = 4 ∨ z = 5) with rfl | rfl | rfl | rfl | rfl | rfl
        · go_wp2_with fail
          (with_reducible refine (HB0.out _).mono ?_)
          rintro _ w2 ⟨rfl, hw2⟩
          obtain rfl := hw2.symm
          go_wp2_with fail
          go_round
          case rel => exact ⟨1, by go_num, by omega, by omega⟩
          case measure => simp [intOf]
        · go_wp2_with fail
          (with_reducible refine (HB1.out _).mono ?_)
          rintro _ w2 ⟨rfl, hw2⟩
          obtain rfl := hw2.symm
          go_wp2_with fail
          go_round
          case rel => exact ⟨2, by go_num, by omega, by omega⟩
          case measure => simp [intOf]
        · go_wp2_with fail
          (with_reducible refine (HB2.out _).mono ?_)
          rintro _ w2 ⟨rfl, hw2⟩
          obtain rfl := hw2.symm
          go_wp2_with fail
          go_round
          case rel => exact ⟨3, by go_num, by omega, by omega⟩
          case measure => simp [intOf]
        · go_wp2_with fail
          (with_reducible refine (HB3.out _).mono ?_)
          rintro _ w2 ⟨rfl, hw2⟩
          obtain rfl := hw2.symm
          go_wp2_with fail
          go_round
          case rel => exact ⟨4, by go_num, by omega, by omega⟩
          case measure => simp [intOf]
        · go_wp2_with fail
          (with_reducible refine (HB4.out _).mono ?_)
          rintro _ w2 ⟨rfl, hw2⟩
          obtain rfl := hw2.symm
          go_wp2_with fail
          go_round
          case rel => exact ⟨5, by go_num, by omega, by omega⟩
          case measure => simp [intOf]
        · go_wp2_with fail
          (with_reducible refine (HB5.out _).mono ?_)
          rintro _ w2 ⟨rfl, hw2⟩
          obtain rfl := hw2.symm
          go_wp2_with fail
          have B6 := Lib.hid (bel_alloc (bel_alloc (bel_alloc (bel_alloc (bel_alloc (bel_alloc (Below.refl w.heap.size w) (.cells #[.int .i64 0, .int .i64 0, .string ⟨#[]⟩, .slice none 0 0] 25)) (.cells #[.string ⟨#[97, 108, 108]⟩, .string ⟨#[110, 111, 110, 101]⟩, .string ⟨#[117, 110, 114, 101, 97, 100]⟩, .string ⟨#[115, 116, 97, 114, 114, 101, 100]⟩] 9)) (.cells #[.int .i64 1, .int .i64 2, .int .i64 9, .int .i64 10] 3)) (.cells #[.string ⟨#[102, 101, 101, 100, 58]⟩, .string ⟨#[102, 111, 108, 100, 101, 114, 58]⟩, .string ⟨#[119, 105, 116, 104, 105, 110, 58]⟩, .string ⟨#[98, 101, 102, 111, 114, 101, 58]⟩, .string ⟨#[115, 105, 110, 99, 101, 58]⟩, .string ⟨#[116, 97, 103, 58]⟩, .string ⟨#[119, 111, 114, 100, 58]⟩, .string ⟨#[98, 101, 103, 105, 110, 115, 58]⟩] 9)) (.cells #[.int .i64 6, .int .i64 7, .int .i64 15, .int .i64 13, .int .i64 14, .int .i64 8, .int .i64 11, .int .i64 12] 3)) (.cells #[.int .i64 8, .int .i64 0, .string ⟨#[]⟩, .slice none 0 0] 25))
          have X6 := Lib.hid ((((((Blk.new w 25 #[.int .i64 0, .int .i64 0, .string ⟨#[]⟩, .slice none 0 0]).alloc (.cells #[.string ⟨#[97, 108, 108]⟩, .string ⟨#[110, 111, 110, 101]⟩, .string ⟨#[117, 110, 114, 101, 97, 100]⟩, .string ⟨#[115, 116, 97, 114, 114, 101, 100]⟩] 9)).alloc (.cells #[.int .i64 1, .int .i64 2, .int .i64 9, .int .i64 10] 3)).alloc (.cells #[.string ⟨#[102, 101, 101, 100, 58]⟩, .string ⟨#[102, 111, 108, 100, 101, 114, 58]⟩, .string ⟨#[119, 105, 116, 104, 105, 110, 58]⟩, .string ⟨#[98, 101, 102, 111, 114, 101, 58]⟩, .string ⟨#[115, 105, 110, 99, 101, 58]⟩, .string ⟨#[116, 97, 103, 58]⟩, .string ⟨#[119, 111, 114, 100, 58]⟩, .string ⟨#[98, 101, 103, 105, 110, 115, 58]⟩] 9)).alloc (.cells #[.int .i64 6, .int .i64 7, .int .i64 15, .int .i64 13, .int .i64 14, .int .i64 8, .int .i64 11, .int .i64 12] 3)).alloc (.cells #[.int .i64 8, .int .i64 0, .string ⟨#[]⟩, .slice none 0 0] 25))
          have y6 := Blk.new (((((w.alloc (.cells #[.int .i64 0, .int .i64 0, .string ⟨#[]⟩, .slice none 0 0] 25)).alloc (.cells #[.string ⟨#[97, 108, 108]⟩, .string ⟨#[110, 111, 110, 101]⟩, .string ⟨#[117, 110, 114, 101, 97, 100]⟩, .string ⟨#[115, 116, 97, 114, 114, 101, 100]⟩] 9)).alloc (.cells #[.int .i64 1, .int .i64 2, .int .i64 9, .int .i64 10] 3)).alloc (.cells #[.string ⟨#[102, 101, 101, 100, 58]⟩, .string ⟨#[102, 111, 108, 100, 101, 114, 58]⟩, .string ⟨#[119, 105, 116, 104, 105, 110, 58]⟩, .string ⟨#[98, 101, 102, 111, 114, 101, 58]⟩, .string ⟨#[115, 105, 110, 99, 101, 58]⟩, .string ⟨#[116, 97, 103, 58]⟩, .string ⟨#[119, 111, 114, 100, 58]⟩, .string ⟨#[98, 101, 103, 105, 110, 115, 58]⟩] 9)).alloc (.cells #[.int .i64 6, .int .i64 7, .int .i64 15, .int .i64 13, .int .i64 14, .int .i64 8, .int .i64 11, .int .i64 12] 3)) 25 #[.int .i64 8, .int .i64 0, .string ⟨#[]⟩, .slice none 0 0]
          rw [show (((((w.alloc (.cells #[.int .i64 0, .int .i64 0, .string ⟨#[]⟩, .slice none 0 0] 25)).alloc (.cells #[.string ⟨#[97, 108, 108]⟩, .string ⟨#[110, 111, 110, 101]⟩, .string ⟨#[117, 110, 114, 101, 97, 100]⟩, .string ⟨#[115, 116, 97, 114, 114, 101, 100]⟩] 9)).alloc (.cells #[.int .i64 1, .int .i64 2, .int .i64 9, .int .i64 10] 3)).alloc (.cells #[.string ⟨#[102, 101, 101, 100, 58]⟩, .string ⟨#[102, 111, 108, 100, 101, 114, 58]⟩, .string ⟨#[119, 105, 116, 104, 105, 110, 58]⟩, .string ⟨#[98, 101, 102, 111, 114, 101, 58]⟩, .string ⟨#[115, 105, 110, 99, 101, 58]⟩, .string ⟨#[116, 97, 103, 58]⟩, .string ⟨#[119, 111, 114, 100, 58]⟩, .string ⟨#[98, 101, 103, 105, 110, 115, 58]⟩] 9)).alloc (.cells #[.int .i64 6, .int .i64 7, .int .i64 15, .int .i64 13, .int .i64 14, .int .i64 8, .int .i64 11, .int .i64 12] 3)).heap.size = w.heap.size + 1 + 1 + 1 + 1 + 1 by simp] at y6
          have Y6 := Lib.hid y6
          clear y6
          (with_reducible refine (HNUM.out _).mono ?_)
          rintro _ w3 ⟨rfl, hb3⟩
          have x3 := X6.out.below hb3 X6.out.lt
          have y3' := Y6.out.below hb3 Y6.out.lt
          obtain ⟨q0, q1, q2, q3, q4, q5⟩ := res_facts y3'
          have X8 := Lib.hid (x3.far (p := ⟨w.heap.size + 1 + 1 + 1 + 1 + 1, 2, none⟩) (by show w.heap.size ≠ w.heap.size + 1 + 1 + 1 + 1 + 1; omega) (.string ⟨ff.toArray⟩))
          have Y8 : Hid (Blk (w3.setCell ⟨w.heap.size + 1 + 1 + 1 + 1 + 1, 2, none⟩ (.string ⟨ff.toArray⟩)) (w.heap.size + 1 + 1 + 1 + 1 + 1) 25 #[.int .i64 8, .int .i64 0, .string ⟨ff.toArray⟩, .slice none 0 0]) := Lib.hid (by simpa using y3'.set_ 2 (.string ⟨ff.toArray⟩))
          have B8 := Lib.hid ((bel_step B6.out hb3).setCell (p := ⟨w.heap.size + 1 + 1 + 1 + 1 + 1, 2, none⟩) (show w.heap.size ≤ w.heap.size + 1 + 1 + 1 + 1 + 1 by omega) (.string ⟨ff.toArray⟩))
          clear hb3 x3 y3'
          obtain ⟨k0, k1, k2, k3, k4, k5⟩ := res_facts Y8.out
          go_wp2_with fail
          (with_reducible refine (HCK.out _).mono ?_)
          rintro _ w7 ⟨rfl, hb7⟩
          have X7 := Lib.hid (X8.out.below hb7 X8.out.lt)
          have Y7 := Lib.hid (Y8.out.below hb7 Y8.out.lt)
          have B7 := Lib.hid (bel_step B8.out hb7)
          obtain ⟨z0, z1, z2, z3, z4, z5⟩ := res_facts X7.out
          obtain ⟨n0, n1, n2, n3, n4, n5⟩ := res_facts Y7.out
          clear hb7
          cases b with
          | true =>
            go_wp2_with fail
            have y := set4 X7.out (.int .i64 8) (.int .i64 0) (.string ⟨ff.toArray⟩) (.slice none 0 0)
            have y0 := y.cell 0
            have y1 := y.cell 1
            have y2 := y.cell 2
            have y3 := y.cell 3
            simp at y0 y1 y2 y3
            try simp only [Exit.inBlock, Exit.then]
            exact bodyPost_ret (v := .tuple #[.agg #[.int .i64 8, .int .i64 0, .string ⟨ff.toArray⟩, .slice none 0 0], .bool true]) (by simp [results, Tryz.results73, go_sem, y0, y1, y2, y3]) rfl (retTm_of _ HBB.out HTM.out HLF.out (bel4 B7.out (Nat.le_refl _) _ _ _ _))
          | false =>
            go_wp2_with fail
            have y := set4 X7.out (.int .i64 0) (.int .i64 0) (.string ⟨#[]⟩) (.slice none 0 0)
            have y0 := y.cell 0
            have y1 := y.cell 1
            have y2 := y.cell 2
            have y3 := y.cell 3
            simp at y0 y1 y2 y3
            try simp only [Exit.inBlock, Exit.then]
            exact bodyPost_ret (v := .tuple #[.agg #[.int .i64 0, .int .i64 0, .string ⟨#[]⟩, .slice none 0 0], .bool false]) (by simp [results, Tryz.results73, go_sem, y0, y1, y2, y3]) rfl (retTm_no26 (HTM.out.trans (chk_no26 HBB.out)) (bel4 B7.out (Nat.le_refl _) _ _ _ _))
set_option maxHeartbeats 8000000 in
theorem rterm26_wor (s t : List UInt8) (w : World) (hs : s.length ≤ 512) (d0 : (s == [97, 108, 108]) = false) (d1 : (s == [110, 111, 110, 101]) = false) (d2 : (s == [117, 110, 114, 101, 97, 100]) = false) (d3 : (s == [115, 116, 97, 114, 114, 101, 100]) = false) (m0 : stp pFee s = none) (m1 : stp pFol s = none) (m2 : stp pWit s = none) (m3 : stp pBef s = none) (m4 : stp pSin s = none) (m5 : stp pTag s = none) (hst : stp pWor s = some t) : Calls Tryz.prog 73 #[.string ⟨s.toArray⟩] w (RetTm (termD s) w) := by
  have HTM : Hid (termD s = chkQ ⟨11, 0, foldT t, []⟩) := Lib.hid (by
    unfold termD
    rw [if_neg (by simpa [tAll] using d0), if_neg (by simpa [tNon] using d1), if_neg (by simpa [tUnr] using d2), if_neg (by simpa [tSta] using d3)]
    simp only [m0, m1, m2, m3, m4, m5, hst])
  have HB0 := Lib.hid (fun W => behind26_no s [102, 101, 101, 100, 58] hs (by decide) m0 W)
  have HB1 := Lib.hid (fun W => behind26_no s [102, 111, 108, 100, 101, 114, 58] hs (by decide) m1 W)
  have HB2 := Lib.hid (fun W => behind26_no s [119, 105, 116, 104, 105, 110, 58] hs (by decide) m2 W)
  have HB3 := Lib.hid (fun W => behind26_no s [98, 101, 102, 111, 114, 101, 58] hs (by decide) m3 W)
  have HB4 := Lib.hid (fun W => behind26_no s [115, 105, 110, 99, 101, 58] hs (by decide) m4 W)
  have HB5 := Lib.hid (fun W => behind26_no s [116, 97, 103, 58] hs (by decide) m5 W)
  have HB6 := Lib.hid (fun W => behind26_yes s [119, 111, 114, 100, 58] t hs (by decide) hst W)
  have htl : t.length ≤ 512 := by rw [stp_yes26 hst, List.length_append] at hs; omega
  have ho : i64P 11 := i64P_lit (z := 11) (by omega)
  have hz : (ByteArray.mk t.toArray).size = t.length := size_of t
  have HNUM := Lib.hid (fun W => refFold_any5 ⟨t.toArray⟩ W (by omega))
  simp only [bl_of] at HNUM
  have ht : (foldT t).length ≤ 2048 := by have := foldT_len26 t; omega
  have hn : i64P 0 := i64P_lit (z := 0) (by omega)
  generalize foldT t = ff at *
  have HCK := Lib.hid (fun W => rcheck_leaf 11 0 ff ho hn ht W)
  have HLF : Hid (∀ {W : World}, QAt W (fun b => w.heap.size ≤ b) #[.int .i64 11, .int .i64 0, .string ⟨(ff : List UInt8).toArray⟩, .slice none 0 0] ⟨11, 0, ff, []⟩) := Lib.hid (QAt.leaf ho hn (by omega))
  generalize hbb : okQ ⟨11, 0, ff, []⟩ = b at HCK
  have HBB := Lib.hid hbb
  clear hbb
  generalize termD s = tm at *
  clear m0 m1 m2 m3 m4 m5 hst
  go_enter Tryz.func73, Tryz.ntmps73
  go_wp2_with fail
  go_loop [6] (fun i => ∃ z : Int, i = .int .i64 z ∧ 0 ≤ z ∧ z ≤ 4) (fun i => 5 - (intOf i).toNat)
  case atStart => exact ⟨0, rfl, by omega, by omega⟩
  case round =>
    obtain ⟨z, rfl, hz0, hz1⟩ := hrel
    rcases (by omega : z = 0 ∨ z = 1 ∨ z = 2 ∨ z = 3 ∨ z = 4) with rfl | rfl | rfl | rfl | rfl
    · go_wp2_with fail
      go_round
      case rel => exact ⟨1, by go_num, by omega, by omega⟩
      case measure => simp [intOf]
    · go_wp2_with fail
      go_round
      case rel => exact ⟨2, by go_num, by omega, by omega⟩
      case measure => simp [intOf]
    · go_wp2_with fail
      go_round
      case rel => exact ⟨3, by go_num, by omega, by omega⟩
      case measure => simp [intOf]
    · go_wp2_with fail
      go_round
      case rel => exact ⟨4, by go_num, by omega, by omega⟩
      case measure => simp [intOf]
    · clear d0 d1 d2 d3
      go_wp2_with fail
      go_loop [9] (fun i => ∃ z : Int, i = .int .i64 z ∧ 0 ≤ z ∧ z ≤ 6) (fun i => 9 - (intOf i).toNat)
      case atStart => exact ⟨0, rfl, by omega, by omega⟩
      case round =>
        obtain ⟨z, rfl, hz0, hz1⟩ := hrel
        rcases (by omega : z = 0 ∨ z = 1 ∨ z = 2 ∨ z = 3 ∨ z = 4 ∨ z = 5 ∨ z = 6) with rfl | rfl | rfl | rfl | rfl | rfl | rfl
        · go_wp2_with fail
          (with_reducible refine (HB0.out _).mono ?_)
          rintro _ w2 ⟨rfl, hw2⟩
          obtain rfl := hw2.symm
          go_wp2_with fail
          go_round
          case rel => exact ⟨1, by go_num, by omega, by omega⟩
          case measure => simp [intOf]
        · go_wp2_with fail
          (with_reducible refine (HB1.out _).mono ?_)
          rintro _ w2 ⟨rfl, hw2⟩
          obtain rfl := hw2.symm
          go_wp2_with fail
          go_round
          case rel => exact ⟨2, by go_num, by omega, by omega⟩
          case measure => simp [intOf]
        · go_wp2_with fail
          (with_reducible refine (HB2.out _).mono ?_)
          rintro _ w2 ⟨rfl, hw2⟩
          obtain rfl := hw2.symm
          go_wp2_with fail
          go_round
          case rel => exact ⟨3, by go_num, by omega, by omega⟩
          case measure => simp [intOf]
        · go_wp2_with fail
          (with_reducible refine (HB3.out _).mono ?_)
          rintro _ w2 ⟨rfl, hw2⟩
          obtain rfl := hw2.symm
          go_wp2_with fail
          go_round
          case rel => exact ⟨4, by go_num, by omega, by omega⟩
          case measure => simp [intOf]
        · go_wp2_with fail
          (with_reducible refine (HB4.out _).mono ?_)
          rintro _ w2 ⟨rfl, hw2⟩
          obtain rfl := hw2.symm
          go_wp2_with fail
          go_round
          case rel => exact ⟨5, by go_num, by omega, by omega⟩
          case measure => simp [intOf]
        · go_wp2_with fail
          (with_reducible refine (HB5.out _).mono ?_)
          rintro _ w2 ⟨rfl, hw2⟩
          obtain rfl := hw2.symm
          go_wp2_with fail
          go_round
          case rel => exact ⟨6, by go_num, by omega, by omega⟩
          case measure => simp [intOf]
        · go_wp2_with fail
          (with_reducible refine (HB6.out _).mono ?_)
          rintro _ w2 ⟨rfl, hw2⟩
          obtain rfl := hw2.symm
          go_wp2_with fail
          have B6 := Lib.hid (bel_alloc (bel_alloc (bel_alloc (bel_alloc (bel_alloc (bel_alloc (Below.refl w.heap.size w) (.cells #[.int .i64 0, .int .i64 0, .string ⟨#[]⟩, .slice none 0 0] 25)) (.cells #[.string ⟨#[97, 108, 108]⟩, .string ⟨#[110, 111, 110, 101]⟩, .string ⟨#[117, 110, 114, 101, 97, 100]⟩, .string ⟨#[115, 116, 97, 114, 114, 101, 100]⟩] 9)) (.cells #[.int .i64 1, .int .i64 2, .int .i64 9, .int .i64 10] 3)) (.cells #[.string ⟨#[102, 101, 101, 100, 58]⟩, .string ⟨#[102, 111, 108, 100, 101, 114, 58]⟩, .string ⟨#[119, 105, 116, 104, 105, 110, 58]⟩, .string ⟨#[98, 101, 102, 111, 114, 101, 58]⟩, .string ⟨#[115, 105, 110, 99, 101, 58]⟩, .string ⟨#[116, 97, 103, 58]⟩, .string ⟨#[119, 111, 114, 100, 58]⟩, .string ⟨#[98, 101, 103, 105, 110, 115, 58]⟩] 9)) (.cells #[.int .i64 6, .int .i64 7, .int .i64 15, .int .i64 13, .int .i64 14, .int .i64 8, .int .i64 11, .int .i64 12] 3)) (.cells #[.int .i64 11, .int .i64 0, .string ⟨#[]⟩, .slice none 0 0] 25))
          have X6 := Lib.hid ((((((Blk.new w 25 #[.int .i64 0, .int .i64 0, .string ⟨#[]⟩, .slice none 0 0]).alloc (.cells #[.string ⟨#[97, 108, 108]⟩, .string ⟨#[110, 111, 110, 101]⟩, .string ⟨#[117, 110, 114, 101, 97, 100]⟩, .string ⟨#[115, 116, 97, 114, 114, 101, 100]⟩] 9)).alloc (.cells #[.int .i64 1, .int .i64 2, .int .i64 9, .int .i64 10] 3)).alloc (.cells #[.string ⟨#[102, 101, 101, 100, 58]⟩, .string ⟨#[102, 111, 108, 100, 101, 114, 58]⟩, .string ⟨#[119, 105, 116, 104, 105, 110, 58]⟩, .string ⟨#[98, 101, 102, 111, 114, 101, 58]⟩, .string ⟨#[115, 105, 110, 99, 101, 58]⟩, .string ⟨#[116, 97, 103, 58]⟩, .string ⟨#[119, 111, 114, 100, 58]⟩, .string ⟨#[98, 101, 103, 105, 110, 115, 58]⟩] 9)).alloc (.cells #[.int .i64 6, .int .i64 7, .int .i64 15, .int .i64 13, .int .i64 14, .int .i64 8, .int .i64 11, .int .i64 12] 3)).alloc (.cells #[.int .i64 11, .int .i64 0, .string ⟨#[]⟩, .slice none 0 0] 25))
          have y6 := Blk.new (((((w.alloc (.cells #[.int .i64 0, .int .i64 0, .string ⟨#[]⟩, .slice none 0 0] 25)).alloc (.cells #[.string ⟨#[97, 108, 108]⟩, .string ⟨#[110, 111, 110, 101]⟩, .string ⟨#[117, 110, 114, 101, 97, 100]⟩, .string ⟨#[115, 116, 97, 114, 114, 101, 100]⟩] 9)).alloc (.cells #[.int .i64 1, .int .i64 2, .int .i64 9, .int .i64 10] 3)).alloc (.cells #[.string ⟨#[102, 101, 101, 100, 58]⟩, .string ⟨#[102, 111, 108, 100, 101, 114, 58]⟩, .string ⟨#[119, 105, 116, 104, 105, 110, 58]⟩, .string ⟨#[98, 101, 102, 111, 114, 101, 58]⟩, .string ⟨#[115, 105, 110, 99, 101, 58]⟩, .string ⟨#[116, 97, 103, 58]⟩, .string ⟨#[119, 111, 114, 100, 58]⟩, .string ⟨#[98, 101, 103, 105, 110, 115, 58]⟩] 9)).alloc (.cells #[.int .i64 6, .int .i64 7, .int .i64 15, .int .i64 13, .int .i64 14, .int .i64 8, .int .i64 11, .int .i64 12] 3)) 25 #[.int .i64 11, .int .i64 0, .string ⟨#[]⟩, .slice none 0 0]
          rw [show (((((w.alloc (.cells #[.int .i64 0, .int .i64 0, .string ⟨#[]⟩, .slice none 0 0] 25)).alloc (.cells #[.string ⟨#[97, 108, 108]⟩, .string ⟨#[110, 111, 110, 101]⟩, .string ⟨#[117, 110, 114, 101, 97, 100]⟩, .string ⟨#[115, 116, 97, 114, 114, 101, 100]⟩] 9)).alloc (.cells #[.int .i64 1, .int .i64 2, .int .i64 9, .int .i64 10] 3)).alloc (.cells #[.string ⟨#[102, 101, 101, 100, 58]⟩, .string ⟨#[102, 111, 108, 100, 101, 114, 58]⟩, .string ⟨#[119, 105, 116, 104, 105, 110, 58]⟩, .string ⟨#[98, 101, 102, 111, 114, 101, 58]⟩, .string ⟨#[115, 105, 110, 99, 101, 58]⟩, .string ⟨#[116, 97, 103, 58]⟩, .string ⟨#[119, 111, 114, 100, 58]⟩, .string ⟨#[98, 101, 103, 105, 110, 115, 58]⟩] 9)).alloc (.cells #[.int .i64 6, .int .i64 7, .int .i64 15, .int .i64 13, .int .i64 14, .int .i64 8, .int .i64 11, .int .i64 12] 3)).heap.size = w.heap.size + 1 + 1 + 1 + 1 + 1 by simp] at y6
          have Y6 := Lib.hid y6
          clear y6
          (with_reducible refine (HNUM.out _).mono ?_)
          rintro _ w3 ⟨rfl, hb3⟩
          have x3 := X6.out.below hb3 X6.out.lt
          have y3' := Y6.out.below hb3 Y6.out.lt
          obtain ⟨q0, q1, q2, q3, q4, q5⟩ := res_facts y3'
          have X8 := Lib.hid (x3.far (p := ⟨w.heap.size + 1 + 1 + 1 + 1 + 1, 2, none⟩) (by show w.heap.size ≠ w.heap.size + 1 + 1 + 1 + 1 + 1; omega) (.string ⟨ff.toArray⟩))
          have Y8 : Hid (Blk (w3.setCell ⟨w.heap.size + 1 + 1 + 1 + 1 + 1, 2, none⟩ (.string ⟨ff.toArray⟩)) (w.heap.size + 1 + 1 + 1 + 1 + 1) 25 #[.int .i64 11, .int .i64 0, .string ⟨ff.toArray⟩, .slice none 0 0]) := Lib.hid (by simpa using y3'.set_ 2 (.string ⟨ff.toArray⟩))
          have B8 := Lib.hid ((bel_step B6.out hb3).setCell (p := ⟨w.heap.size + 1 + 1 + 1 + 1 + 1, 2, none⟩) (show w.heap.size ≤ w.heap.size + 1 + 1 + 1 + 1 + 1 by omega) (.string ⟨ff.toArray⟩))
          clear hb3 x3 y3'
          obtain ⟨k0, k1, k2, k3, k4, k5⟩ := res_facts Y8.out
          go_wp2_with fail
          (with_reducible refine (HCK.out _).mono ?_)
          rintro _ w7 ⟨rfl, hb7⟩
          have X7 := Lib.hid (X8.out.below hb7 X8.out.lt)
          have Y7 := Lib.hid (Y8.out.below hb7 Y8.out.lt)
          have B7 := Lib.hid (bel_step B8.out hb7)
          obtain ⟨z0, z1, z2, z3, z4, z5⟩ := res_facts X7.out
          obtain ⟨n0, n1, n2, n3, n4, n5⟩ := res_facts Y7.out
          clear hb7
          cases b with
          | true =>
            go_wp2_with fail
            have y := set4 X7.out (.int .i64 11) (.int .i64 0) (.string ⟨ff.toArray⟩) (.slice none 0 0)
            have y0 := y.cell 0
            have y1 := y.cell 1
            have y2 := y.cell 2
            have y3 := y.cell 3
            simp at y0 y1 y2 y3
            try simp only [Exit.inBlock, Exit.then]
            exact bodyPost_ret (v := .tuple #[.agg #[.int .i64 11, .int .i64 0, .string ⟨ff.toArray⟩, .slice none 0 0], .bool true]) (by simp [results, Tryz.results73, go_sem, y0, y1, y2, y3]) rfl (retTm_of _ HBB.out HTM.out HLF.out (bel4 B7.out (Nat.le_refl _) _ _ _ _))
          | false =>
            go_wp2_with fail
            have y := set4 X7.out (.int .i64 0) (.int .i64 0) (.string ⟨#[]⟩) (.slice none 0 0)
            have y0 := y.cell 0
            have y1 := y.cell 1
            have y2 := y.cell 2
            have y3 := y.cell 3
            simp at y0 y1 y2 y3
            try simp only [Exit.inBlock, Exit.then]
            exact bodyPost_ret (v := .tuple #[.agg #[.int .i64 0, .int .i64 0, .string ⟨#[]⟩, .slice none 0 0], .bool false]) (by simp [results, Tryz.results73, go_sem, y0, y1, y2, y3]) rfl (retTm_no26 (HTM.out.trans (chk_no26 HBB.out)) (bel4 B7.out (Nat.le_refl _) _ _ _ _))
set_option maxHeartbeats 8000000 in
theorem rterm26_beg (s t : List UInt8) (w : World) (hs : s.length ≤ 512) (d0 : (s == [97, 108, 108]) = false) (d1 : (s == [110, 111, 110, 101]) = false) (d2 : (s == [117, 110, 114, 101, 97, 100]) = false) (d3 : (s == [115, 116, 97, 114, 114, 101, 100]) = false) (m0 : stp pFee s = none) (m1 : stp pFol s = none) (m2 : stp pWit s = none) (m3 : stp pBef s = none) (m4 : stp pSin s = none) (m5 : stp pTag s = none) (m6 : stp pWor s = none) (hst : stp pBeg s = some t) : Calls Tryz.prog 73 #[.string ⟨s.toArray⟩] w (RetTm (termD s) w) := by
  have HTM : Hid (termD s = chkQ ⟨12, 0, foldT t, []⟩) := Lib.hid (by
    unfold termD
    rw [if_neg (by simpa [tAll] using d0), if_neg (by simpa [tNon] using d1), if_neg (by simpa [tUnr] using d2), if_neg (by simpa [tSta] using d3)]
    simp only [m0, m1, m2, m3, m4, m5, m6, hst])
  have HB0 := Lib.hid (fun W => behind26_no s [102, 101, 101, 100, 58] hs (by decide) m0 W)
  have HB1 := Lib.hid (fun W => behind26_no s [102, 111, 108, 100, 101, 114, 58] hs (by decide) m1 W)
  have HB2 := Lib.hid (fun W => behind26_no s [119, 105, 116, 104, 105, 110, 58] hs (by decide) m2 W)
  have HB3 := Lib.hid (fun W => behind26_no s [98, 101, 102, 111, 114, 101, 58] hs (by decide) m3 W)
  have HB4 := Lib.hid (fun W => behind26_no s [115, 105, 110, 99, 101, 58] hs (by decide) m4 W)
  have HB5 := Lib.hid (fun W => behind26_no s [116, 97, 103, 58] hs (by decide) m5 W)
  have HB6 := Lib.hid (fun W => behind26_no s [119, 111, 114, 100, 58] hs (by decide) m6 W)
  have HB7 := Lib.hid (fun W => behind26_yes s [98, 101, 103, 105, 110, 115, 58] t hs (by decide) hst W)
  have htl : t.length ≤ 512 := by rw [stp_yes26 hst, List.length_append] at hs; omega
  have ho : i64P 12 := i64P_lit (z := 12) (by omega)
  have hz : (ByteArray.mk t.toArray).size = t.length := size_of t
  have HNUM := Lib.hid (fun W => refFold_any5 ⟨t.toArray⟩ W (by omega))
  simp only [bl_of] at HNUM
  have ht : (foldT t).length ≤ 2048 := by have := foldT_len26 t; omega
  have hn : i64P 0 := i64P_lit (z := 0) (by omega)
  generalize foldT t = ff at *
  have HCK := Lib.hid (fun W => rcheck_leaf 12 0 ff ho hn ht W)
  have HLF : Hid (∀ {W : World}, QAt W (fun b => w.heap.size ≤ b) #[.int .i64 12, .int .i64 0, .string ⟨(ff : List UInt8).toArray⟩, .slice none 0 0] ⟨12, 0, ff, []⟩) := Lib.hid (QAt.leaf ho hn (by omega))
  generalize hbb : okQ ⟨12, 0, ff, []⟩ = b at HCK
  have HBB := Lib.hid hbb
  clear hbb
  generalize termD s = tm at *
  clear m0 m1 m2 m3 m4 m5 m6 hst
  go_enter Tryz.func73, Tryz.ntmps73
  go_wp2_with fail
  go_loop [6] (fun i => ∃ z : Int, i = .int .i64 z ∧ 0 ≤ z ∧ z ≤ 4) (fun i => 5 - (intOf i).toNat)
  case atStart => exact ⟨0, rfl, by omega, by omega⟩
  case round =>
    obtain ⟨z, rfl, hz0, hz1⟩ := hrel
    rcases (by omega : z = 0 ∨ z = 1 ∨ z = 2 ∨ z = 3 ∨ z = 4) with rfl | rfl | rfl | rfl | rfl
    · go_wp2_with fail
      go_round
      case rel => exact ⟨1, by go_num, by omega, by omega⟩
      case measure => simp [intOf]
    · go_wp2_with fail
      go_round
      case rel => exact ⟨2, by go_num, by omega, by omega⟩
      case measure => simp [intOf]
    · go_wp2_with fail
      go_round
      case rel => exact ⟨3, by go_num, by omega, by omega⟩
      case measure => simp [intOf]
    · go_wp2_with fail
      go_round
      case rel => exact ⟨4, by go_num, by omega, by omega⟩
      case measure => simp [intOf]
    · clear d0 d1 d2 d3
      go_wp2_with fail
      go_loop [9] (fun i => ∃ z : Int, i = .int .i64 z ∧ 0 ≤ z ∧ z ≤ 7) (fun i => 9 - (intOf i).toNat)
      case atStart => exact ⟨0, rfl, by omega, by omega⟩
      case round =>
        obtain ⟨z, rfl, hz0, hz1⟩ := hrel
        rcases (by omega : z = 0 ∨ z = 1 ∨ z = 2 ∨ z = 3 ∨ z = 4 ∨ z = 5 ∨ z = 6 ∨ z = 7) with rfl | rfl | rfl | rfl | rfl | rfl | rfl | rfl
        · go_wp2_with fail
          (with_reducible refine (HB0.out _).mono ?_)
          rintro _ w2 ⟨rfl, hw2⟩
          obtain rfl := hw2.symm
          go_wp2_with fail
          go_round
          case rel => exact ⟨1, by go_num, by omega, by omega⟩
          case measure => simp [intOf]
        · go_wp2_with fail
          (with_reducible refine (HB1.out _).mono ?_)
          rintro _ w2 ⟨rfl, hw2⟩
          obtain rfl := hw2.symm
          go_wp2_with fail
          go_round
          case rel => exact ⟨2, by go_num, by omega, by omega⟩
          case measure => simp [intOf]
        · go_wp2_with fail
          (with_reducible refine (HB2.out _).mono ?_)
          rintro _ w2 ⟨rfl, hw2⟩
          obtain rfl := hw2.symm
          go_wp2_with fail
          go_round
          case rel => exact ⟨3, by go_num, by omega, by omega⟩
          case measure => simp [intOf]
        · go_wp2_with fail
          (with_reducible refine (HB3.out _).mono ?_)
          rintro _ w2 ⟨rfl, hw2⟩
          obtain rfl := hw2.symm
          go_wp2_with fail
          go_round
          case rel => exact ⟨4, by go_num, by omega, by omega⟩
          case measure => simp [intOf]
        · go_wp2_with fail
          (with_reducible refine (HB4.out _).mono ?_)
          rintro _ w2 ⟨rfl, hw2⟩
          obtain rfl := hw2.symm
          go_wp2_with fail
          go_round
          case rel => exact ⟨5, by go_num, by omega, by omega⟩
          case measure => simp [intOf]
        · go_wp2_with fail
          (with_reducible refine (HB5.out _).mono ?_)
          rintro _ w2 ⟨rfl, hw2⟩
          obtain rfl := hw2.symm
          go_wp2_with fail
          go_round
          case rel => exact ⟨6, by go_num, by omega, by omega⟩
          case measure => simp [intOf]
        · go_wp2_with fail
          (with_reducible refine (HB6.out _).mono ?_)
          rintro _ w2 ⟨rfl, hw2⟩
          obtain rfl := hw2.symm
          go_wp2_with fail
          go_round
          case rel => exact ⟨7, by go_num, by omega, by omega⟩
          case measure => simp [intOf]
        · go_wp2_with fail
          (with_reducible refine (HB7.out _).mono ?_)
          rintro _ w2 ⟨rfl, hw2⟩
          obtain rfl := hw2.symm
          go_wp2_with fail
          have B6 := Lib.hid (bel_alloc (bel_alloc (bel_alloc (bel_alloc (bel_alloc (bel_alloc (Below.refl w.heap.size w) (.cells #[.int .i64 0, .int .i64 0, .string ⟨#[]⟩, .slice none 0 0] 25)) (.cells #[.string ⟨#[97, 108, 108]⟩, .string ⟨#[110, 111, 110, 101]⟩, .string ⟨#[117, 110, 114, 101, 97, 100]⟩, .string ⟨#[115, 116, 97, 114, 114, 101, 100]⟩] 9)) (.cells #[.int .i64 1, .int .i64 2, .int .i64 9, .int .i64 10] 3)) (.cells #[.string ⟨#[102, 101, 101, 100, 58]⟩, .string ⟨#[102, 111, 108, 100, 101, 114, 58]⟩, .string ⟨#[119, 105, 116, 104, 105, 110, 58]⟩, .string ⟨#[98, 101, 102, 111, 114, 101, 58]⟩, .string ⟨#[115, 105, 110, 99, 101, 58]⟩, .string ⟨#[116, 97, 103, 58]⟩, .string ⟨#[119, 111, 114, 100, 58]⟩, .string ⟨#[98, 101, 103, 105, 110, 115, 58]⟩] 9)) (.cells #[.int .i64 6, .int .i64 7, .int .i64 15, .int .i64 13, .int .i64 14, .int .i64 8, .int .i64 11, .int .i64 12] 3)) (.cells #[.int .i64 12, .int .i64 0, .string ⟨#[]⟩, .slice none 0 0] 25))
          have X6 := Lib.hid ((((((Blk.new w 25 #[.int .i64 0, .int .i64 0, .string ⟨#[]⟩, .slice none 0 0]).alloc (.cells #[.string ⟨#[97, 108, 108]⟩, .string ⟨#[110, 111, 110, 101]⟩, .string ⟨#[117, 110, 114, 101, 97, 100]⟩, .string ⟨#[115, 116, 97, 114, 114, 101, 100]⟩] 9)).alloc (.cells #[.int .i64 1, .int .i64 2, .int .i64 9, .int .i64 10] 3)).alloc (.cells #[.string ⟨#[102, 101, 101, 100, 58]⟩, .string ⟨#[102, 111, 108, 100, 101, 114, 58]⟩, .string ⟨#[119, 105, 116, 104, 105, 110, 58]⟩, .string ⟨#[98, 101, 102, 111, 114, 101, 58]⟩, .string ⟨#[115, 105, 110, 99, 101, 58]⟩, .string ⟨#[116, 97, 103, 58]⟩, .string ⟨#[119, 111, 114, 100, 58]⟩, .string ⟨#[98, 101, 103, 105, 110, 115, 58]⟩] 9)).alloc (.cells #[.int .i64 6, .int .i64 7, .int .i64 15, .int .i64 13, .int .i64 14, .int .i64 8, .int .i64 11, .int .i64 12] 3)).alloc (.cells #[.int .i64 12, .int .i64 0, .string ⟨#[]⟩, .slice none 0 0] 25))
          have y6 := Blk.new (((((w.alloc (.cells #[.int .i64 0, .int .i64 0, .string ⟨#[]⟩, .slice none 0 0] 25)).alloc (.cells #[.string ⟨#[97, 108, 108]⟩, .string ⟨#[110, 111, 110, 101]⟩, .string ⟨#[117, 110, 114, 101, 97, 100]⟩, .string ⟨#[115, 116, 97, 114, 114, 101, 100]⟩] 9)).alloc (.cells #[.int .i64 1, .int .i64 2, .int .i64 9, .int .i64 10] 3)).alloc (.cells #[.string ⟨#[102, 101, 101, 100, 58]⟩, .string ⟨#[102, 111, 108, 100, 101, 114, 58]⟩, .string ⟨#[119, 105, 116, 104, 105, 110, 58]⟩, .string ⟨#[98, 101, 102, 111, 114, 101, 58]⟩, .string ⟨#[115, 105, 110, 99, 101, 58]⟩, .string ⟨#[116, 97, 103, 58]⟩, .string ⟨#[119, 111, 114, 100, 58]⟩, .string ⟨#[98, 101, 103, 105, 110, 115, 58]⟩] 9)).alloc (.cells #[.int .i64 6, .int .i64 7, .int .i64 15, .int .i64 13, .int .i64 14, .int .i64 8, .int .i64 11, .int .i64 12] 3)) 25 #[.int .i64 12, .int .i64 0, .string ⟨#[]⟩, .slice none 0 0]
          rw [show (((((w.alloc (.cells #[.int .i64 0, .int .i64 0, .string ⟨#[]⟩, .slice none 0 0] 25)).alloc (.cells #[.string ⟨#[97, 108, 108]⟩, .string ⟨#[110, 111, 110, 101]⟩, .string ⟨#[117, 110, 114, 101, 97, 100]⟩, .string ⟨#[115, 116, 97, 114, 114, 101, 100]⟩] 9)).alloc (.cells #[.int .i64 1, .int .i64 2, .int .i64 9, .int .i64 10] 3)).alloc (.cells #[.string ⟨#[102, 101, 101, 100, 58]⟩, .string ⟨#[102, 111, 108, 100, 101, 114, 58]⟩, .string ⟨#[119, 105, 116, 104, 105, 110, 58]⟩, .string ⟨#[98, 101, 102, 111, 114, 101, 58]⟩, .string ⟨#[115, 105, 110, 99, 101, 58]⟩, .string ⟨#[116, 97, 103, 58]⟩, .string ⟨#[119, 111, 114, 100, 58]⟩, .string ⟨#[98, 101, 103, 105, 110, 115, 58]⟩] 9)).alloc (.cells #[.int .i64 6, .int .i64 7, .int .i64 15, .int .i64 13, .int .i64 14, .int .i64 8, .int .i64 11, .int .i64 12] 3)).heap.size = w.heap.size + 1 + 1 + 1 + 1 + 1 by simp] at y6
          have Y6 := Lib.hid y6
          clear y6
          (with_reducible refine (HNUM.out _).mono ?_)
          rintro _ w3 ⟨rfl, hb3⟩
          have x3 := X6.out.below hb3 X6.out.lt
          have y3' := Y6.out.below hb3 Y6.out.lt
          obtain ⟨q0, q1, q2, q3, q4, q5⟩ := res_facts y3'
          have X8 := Lib.hid (x3.far (p := ⟨w.heap.size + 1 + 1 + 1 + 1 + 1, 2, none⟩) (by show w.heap.size ≠ w.heap.size + 1 + 1 + 1 + 1 + 1; omega) (.string ⟨ff.toArray⟩))
          have Y8 : Hid (Blk (w3.setCell ⟨w.heap.size + 1 + 1 + 1 + 1 + 1, 2, none⟩ (.string ⟨ff.toArray⟩)) (w.heap.size + 1 + 1 + 1 + 1 + 1) 25 #[.int .i64 12, .int .i64 0, .string ⟨ff.toArray⟩, .slice none 0 0]) := Lib.hid (by simpa using y3'.set_ 2 (.string ⟨ff.toArray⟩))
          have B8 := Lib.hid ((bel_step B6.out hb3).setCell (p := ⟨w.heap.size + 1 + 1 + 1 + 1 + 1, 2, none⟩) (show w.heap.size ≤ w.heap.size + 1 + 1 + 1 + 1 + 1 by omega) (.string ⟨ff.toArray⟩))
          clear hb3 x3 y3'
          obtain ⟨k0, k1, k2, k3, k4, k5⟩ := res_facts Y8.out
          go_wp2_with fail
          (with_reducible refine (HCK.out _).mono ?_)
          rintro _ w7 ⟨rfl, hb7⟩
          have X7 := Lib.hid (X8.out.below hb7 X8.out.lt)
          have Y7 := Lib.hid (Y8.out.below hb7 Y8.out.lt)
          have B7 := Lib.hid (bel_step B8.out hb7)
          obtain ⟨z0, z1, z2, z3, z4, z5⟩ := res_facts X7.out
          obtain ⟨n0, n1, n2, n3, n4, n5⟩ := res_facts Y7.out
          clear hb7
          cases b with
          | true =>
            go_wp2_with fail
            have y := set4 X7.out (.int .i64 12) (.int .i64 0) (.string ⟨ff.toArray⟩) (.slice none 0 0)
            have y0 := y.cell 0
            have y1 := y.cell 1
            have y2 := y.cell 2
            have y3 := y.cell 3
            simp at y0 y1 y2 y3
            try simp only [Exit.inBlock, Exit.then]
            exact bodyPost_ret (v := .tuple #[.agg #[.int .i64 12, .int .i64 0, .string ⟨ff.toArray⟩, .slice none 0 0], .bool true]) (by simp [results, Tryz.results73, go_sem, y0, y1, y2, y3]) rfl (retTm_of _ HBB.out HTM.out HLF.out (bel4 B7.out (Nat.le_refl _) _ _ _ _))
          | false =>
            go_wp2_with fail
            have y := set4 X7.out (.int .i64 0) (.int .i64 0) (.string ⟨#[]⟩) (.slice none 0 0)
            have y0 := y.cell 0
            have y1 := y.cell 1
            have y2 := y.cell 2
            have y3 := y.cell 3
            simp at y0 y1 y2 y3
            try simp only [Exit.inBlock, Exit.then]
            exact bodyPost_ret (v := .tuple #[.agg #[.int .i64 0, .int .i64 0, .string ⟨#[]⟩, .slice none 0 0], .bool false]) (by simp [results, Tryz.results73, go_sem, y0, y1, y2, y3]) rfl (retTm_no26 (HTM.out.trans (chk_no26 HBB.out)) (bel4 B7.out (Nat.le_refl _) _ _ _ _))
set_option maxHeartbeats 8000000 in
theorem rterm26_any (s : List UInt8) (w : World) (hs : s.length ≤ 512) (d0 : (s == [97, 108, 108]) = false) (d1 : (s == [110, 111, 110, 101]) = false) (d2 : (s == [117, 110, 114, 101, 97, 100]) = false) (d3 : (s == [115, 116, 97, 114, 114, 101, 100]) = false) (m0 : stp pFee s = none) (m1 : stp pFol s = none) (m2 : stp pWit s = none) (m3 : stp pBef s = none) (m4 : stp pSin s = none) (m5 : stp pTag s = none) (m6 : stp pWor s = none) (m7 : stp pBeg s = none) : Calls Tryz.prog 73 #[.string ⟨s.toArray⟩] w (RetTm (termD s) w) := by
  have HTM : Hid (termD s = chkQ ⟨11, 0, foldT s, []⟩) := Lib.hid (by
    unfold termD
    rw [if_neg (by simpa [tAll] using d0), if_neg (by simpa [tNon] using d1), if_neg (by simpa [tUnr] using d2), if_neg (by simpa [tSta] using d3)]
    simp only [m0, m1, m2, m3, m4, m5, m6, m7])
  have HB0 := Lib.hid (fun W => behind26_no s [102, 101, 101, 100, 58] hs (by decide) m0 W)
  have HB1 := Lib.hid (fun W => behind26_no s [102, 111, 108, 100, 101, 114, 58] hs (by decide) m1 W)
  have HB2 := Lib.hid (fun W => behind26_no s [119, 105, 116, 104, 105, 110, 58] hs (by decide) m2 W)
  have HB3 := Lib.hid (fun W => behind26_no s [98, 101, 102, 111, 114, 101, 58] hs (by decide) m3 W)
  have HB4 := Lib.hid (fun W => behind26_no s [115, 105, 110, 99, 101, 58] hs (by decide) m4 W)
  have HB5 := Lib.hid (fun W => behind26_no s [116, 97, 103, 58] hs (by decide) m5 W)
  have HB6 := Lib.hid (fun W => behind26_no s [119, 111, 114, 100, 58] hs (by decide) m6 W)
  have HB7 := Lib.hid (fun W => behind26_no s [98, 101, 103, 105, 110, 115, 58] hs (by decide) m7 W)
  have htl := hs
  have ho : i64P 11 := i64P_lit (z := 11) (by omega)
  have hz : (ByteArray.mk s.toArray).size = s.length := size_of s
  have HNUM := Lib.hid (fun W => refFold_any5 ⟨s.toArray⟩ W (by omega))
  simp only [bl_of] at HNUM
  have ht : (foldT s).length ≤ 2048 := by have := foldT_len26 s; omega
  have hn : i64P 0 := i64P_lit (z := 0) (by omega)
  generalize foldT s = ff at *
  have HCK := Lib.hid (fun W => rcheck_leaf 11 0 ff ho hn ht W)
  have HLF : Hid (∀ {W : World}, QAt W (fun b => w.heap.size ≤ b) #[.int .i64 11, .int .i64 0, .string ⟨(ff : List UInt8).toArray⟩, .slice none 0 0] ⟨11, 0, ff, []⟩) := Lib.hid (QAt.leaf ho hn (by omega))
  generalize hbb : okQ ⟨11, 0, ff, []⟩ = b at HCK
  have HBB := Lib.hid hbb
  clear hbb
  generalize termD s = tm at *
  clear m0 m1 m2 m3 m4 m5 m6 m7
  go_enter Tryz.func73, Tryz.ntmps73
  go_wp2_with fail
  go_loop [6] (fun i => ∃ z : Int, i = .int .i64 z ∧ 0 ≤ z ∧ z ≤ 4) (fun i => 5 - (intOf i).toNat)
  case atStart => exact ⟨0, rfl, by omega, by omega⟩
  case round =>
    obtain ⟨z, rfl, hz0, hz1⟩ := hrel
    rcases (by omega : z = 0 ∨ z = 1 ∨ z = 2 ∨ z = 3 ∨ z = 4) with rfl | rfl | rfl | rfl | rfl
    · go_wp2_with fail
      go_round
      case rel => exact ⟨1, by go_num, by omega, by omega⟩
      case measure => simp [intOf]
    · go_wp2_with fail
      go_round
      case rel => exact ⟨2, by go_num, by omega, by omega⟩
      case measure => simp [intOf]
    · go_wp2_with fail
      go_round
      case rel => exact ⟨3, by go_num, by omega, by omega⟩
      case measure => simp [intOf]
    · go_wp2_with fail
      go_round
      case rel => exact ⟨4, by go_num, by omega, by omega⟩
      case measure => simp [intOf]
    · clear d0 d1 d2 d3
      go_wp2_with fail
      go_loop [9] (fun i => ∃ z : Int, i = .int .i64 z ∧ 0 ≤ z ∧ z ≤ 8) (fun i => 9 - (intOf i).toNat)
      case atStart => exact ⟨0, rfl, by omega, by omega⟩
      case round =>
        obtain ⟨z, rfl, hz0, hz1⟩ := hrel
        rcases (by omega : z = 0 ∨ z = 1 ∨ z = 2 ∨ z = 3 ∨ z = 4 ∨ z = 5 ∨ z = 6 ∨ z = 7 ∨ z = 8) with rfl | rfl | rfl | rfl | rfl | rfl | rfl | rfl | rfl
        · go_wp2_with fail
          (with_reducible refine (HB0.out _).mono ?_)
          rintro _ w2 ⟨rfl, hw2⟩
          obtain rfl := hw2.symm
          go_wp2_with fail
          go_round
          case rel => exact ⟨1, by go_num, by omega, by omega⟩
          case measure => simp [intOf]
        · go_wp2_with fail
          (with_reducible refine (HB1.out _).mono ?_)
          rintro _ w2 ⟨rfl, hw2⟩
          obtain rfl := hw2.symm
          go_wp2_with fail
          go_round
          case rel => exact ⟨2, by go_num, by omega, by omega⟩
          case measure => simp [intOf]
        · go_wp2_with fail
          (with_reducible refine (HB2.out _).mono ?_)
          rintro _ w2 ⟨rfl, hw2⟩
          obtain rfl := hw2.symm
          go_wp2_with fail
          go_round
          case rel => exact ⟨3, by go_num, by omega, by omega⟩
          case measure => simp [intOf]
        · go_wp2_with fail
          (with_reducible refine (HB3.out _).mono ?_)
          rintro _ w2 ⟨rfl, hw2⟩
          obtain rfl := hw2.symm
          go_wp2_with fail
          go_round
          case rel => exact ⟨4, by go_num, by omega, by omega⟩
          case measure => simp [intOf]
        · go_wp2_with fail
          (with_reducible refine (HB4.out _).mono ?_)
          rintro _ w2 ⟨rfl, hw2⟩
          obtain rfl := hw2.symm
          go_wp2_with fail
          go_round
          case rel => exact ⟨5, by go_num, by omega, by omega⟩
          case measure => simp [intOf]
        · go_wp2_with fail
          (with_reducible refine (HB5.out _).mono ?_)
          rintro _ w2 ⟨rfl, hw2⟩
          obtain rfl := hw2.symm
          go_wp2_with fail
          go_round
          case rel => exact ⟨6, by go_num, by omega, by omega⟩
          case measure => simp [intOf]
        · go_wp2_with fail
          (with_reducible refine (HB6.out _).mono ?_)
          rintro _ w2 ⟨rfl, hw2⟩
          obtain rfl := hw2.symm
          go_wp2_with fail
          go_round
          case rel => exact ⟨7, by go_num, by omega, by omega⟩
          case measure => simp [intOf]
        · go_wp2_with fail
          (with_reducible refine (HB7.out _).mono ?_)
          rintro _ w2 ⟨rfl, hw2⟩
          obtain rfl := hw2.symm
          go_wp2_with fail
          go_round
          case rel => exact ⟨8, by go_num, by omega, by omega⟩
          case measure => simp [intOf]
        · go_wp2_with fail
          (with_reducible refine (HNUM.out _).mono ?_)
          rintro _ w3 ⟨rfl, hb3⟩
          have b5 := bel_alloc (bel_alloc (bel_alloc (bel_alloc (bel_alloc (Below.refl w.heap.size w) (.cells #[.int .i64 0, .int .i64 0, .string ⟨#[]⟩, .slice none 0 0] 25)) (.cells #[.string ⟨#[97, 108, 108]⟩, .string ⟨#[110, 111, 110, 101]⟩, .string ⟨#[117, 110, 114, 101, 97, 100]⟩, .string ⟨#[115, 116, 97, 114, 114, 101, 100]⟩] 9)) (.cells #[.int .i64 1, .int .i64 2, .int .i64 9, .int .i64 10] 3)) (.cells #[.string ⟨#[102, 101, 101, 100, 58]⟩, .string ⟨#[102, 111, 108, 100, 101, 114, 58]⟩, .string ⟨#[119, 105, 116, 104, 105, 110, 58]⟩, .string ⟨#[98, 101, 102, 111, 114, 101, 58]⟩, .string ⟨#[115, 105, 110, 99, 101, 58]⟩, .string ⟨#[116, 97, 103, 58]⟩, .string ⟨#[119, 111, 114, 100, 58]⟩, .string ⟨#[98, 101, 103, 105, 110, 115, 58]⟩] 9)) (.cells #[.int .i64 6, .int .i64 7, .int .i64 15, .int .i64 13, .int .i64 14, .int .i64 8, .int .i64 11, .int .i64 12] 3)
          have x5 := (((((Blk.new w 25 #[.int .i64 0, .int .i64 0, .string ⟨#[]⟩, .slice none 0 0]).alloc (.cells #[.string ⟨#[97, 108, 108]⟩, .string ⟨#[110, 111, 110, 101]⟩, .string ⟨#[117, 110, 114, 101, 97, 100]⟩, .string ⟨#[115, 116, 97, 114, 114, 101, 100]⟩] 9)).alloc (.cells #[.int .i64 1, .int .i64 2, .int .i64 9, .int .i64 10] 3)).alloc (.cells #[.string ⟨#[102, 101, 101, 100, 58]⟩, .string ⟨#[102, 111, 108, 100, 101, 114, 58]⟩, .string ⟨#[119, 105, 116, 104, 105, 110, 58]⟩, .string ⟨#[98, 101, 102, 111, 114, 101, 58]⟩, .string ⟨#[115, 105, 110, 99, 101, 58]⟩, .string ⟨#[116, 97, 103, 58]⟩, .string ⟨#[119, 111, 114, 100, 58]⟩, .string ⟨#[98, 101, 103, 105, 110, 115, 58]⟩] 9)).alloc (.cells #[.int .i64 6, .int .i64 7, .int .i64 15, .int .i64 13, .int .i64 14, .int .i64 8, .int .i64 11, .int .i64 12] 3)).below hb3 (by simp; omega)
          have X6 := Lib.hid (x5.alloc (.cells #[.int .i64 11, .int .i64 0, .string ⟨ff.toArray⟩, .slice none 0 0] 25))
          have Y6 := Lib.hid (Blk.new w3 25 #[.int .i64 11, .int .i64 0, .string ⟨ff.toArray⟩, .slice none 0 0])
          have B6 := Lib.hid (bel_alloc (bel_step b5 hb3) (.cells #[.int .i64 11, .int .i64 0, .string ⟨ff.toArray⟩, .slice none 0 0] 25))
          clear hb3 b5 x5
          obtain ⟨k0, k1, k2, k3, k4, k5⟩ := res_facts Y6.out
          go_wp2_with fail
          (with_reducible refine (HCK.out _).mono ?_)
          rintro _ w7 ⟨rfl, hb7⟩
          have X7 := Lib.hid (X6.out.below hb7 X6.out.lt)
          have Y7 := Lib.hid (Y6.out.below hb7 Y6.out.lt)
          have B7 := Lib.hid (bel_step B6.out hb7)
          obtain ⟨z0, z1, z2, z3, z4, z5⟩ := res_facts X7.out
          obtain ⟨n0, n1, n2, n3, n4, n5⟩ := res_facts Y7.out
          clear hb7
          cases b with
          | true =>
            go_wp2_with fail
            have y := set4 X7.out (.int .i64 11) (.int .i64 0) (.string ⟨ff.toArray⟩) (.slice none 0 0)
            have y0 := y.cell 0
            have y1 := y.cell 1
            have y2 := y.cell 2
            have y3 := y.cell 3
            simp at y0 y1 y2 y3
            try simp only [Exit.inBlock, Exit.then]
            exact bodyPost_ret (v := .tuple #[.agg #[.int .i64 11, .int .i64 0, .string ⟨ff.toArray⟩, .slice none 0 0], .bool true]) (by simp [results, Tryz.results73, go_sem, y0, y1, y2, y3]) rfl (retTm_of _ HBB.out HTM.out HLF.out (bel4 B7.out (Nat.le_refl _) _ _ _ _))
          | false =>
            go_wp2_with fail
            have y := set4 X7.out (.int .i64 0) (.int .i64 0) (.string ⟨#[]⟩) (.slice none 0 0)
            have y0 := y.cell 0
            have y1 := y.cell 1
            have y2 := y.cell 2
            have y3 := y.cell 3
            simp at y0 y1 y2 y3
            try simp only [Exit.inBlock, Exit.then]
            exact bodyPost_ret (v := .tuple #[.agg #[.int .i64 0, .int .i64 0, .string ⟨#[]⟩, .slice none 0 0], .bool false]) (by simp [results, Tryz.results73, go_sem, y0, y1, y2, y3]) rfl (retTm_no26 (HTM.out.trans (chk_no26 HBB.out)) (bel4 B7.out (Nat.le_refl _) _ _ _ _))
theorem rterm26_all_ways : TermD termD := by
  intro s w hs
  by_cases h0 : s = [97, 108, 108]
  · subst h0; exact rterm26_all w
  by_cases h1 : s = [110, 111, 110, 101]
  · subst h1; exact rterm26_none w
  by_cases h2 : s = [117, 110, 114, 101, 97, 100]
  · subst h2; exact rterm26_unread w
  by_cases h3 : s = [115, 116, 97, 114, 114, 101, 100]
  · subst h3; exact rterm26_starred w
  have d0 : (s == [97, 108, 108]) = false := by simpa using h0
  have d1 : (s == [110, 111, 110, 101]) = false := by simpa using h1
  have d2 : (s == [117, 110, 114, 101, 97, 100]) = false := by simpa using h2
  have d3 : (s == [115, 116, 97, 114, 114, 101, 100]) = false := by simpa using h3
  cases m0 : stp pFee s with
  | some t => exact rterm26_fee s t w hs d0 d1 d2 d3 m0
  | none =>
  cases m1 : stp pFol s with
  | some t => exact rterm26_fol s t w hs d0 d1 d2 d3 m0 m1
  | none =>
  cases m2 : stp pWit s with
  | some t => exact rterm26_wit s t w hs d0 d1 d2 d3 m0 m1 m2
  | none =>
  cases m3 : stp pBef s with
  | some t => exact rterm26_bef s t w hs d0 d1 d2 d3 m0 m1 m2 m3
  | none =>
  cases m4 : stp pSin s with
  | some t => exact rterm26_sin s t w hs d0 d1 d2 d3 m0 m1 m2 m3 m4
  | none =>
  cases m5 : stp pTag s with
  | some t => exact rterm26_tag s t w hs d0 d1 d2 d3 m0 m1 m2 m3 m4 m5
  | none =>
  cases m6 : stp pWor s with
  | some t => exact rterm26_wor s t w hs d0 d1 d2 d3 m0 m1 m2 m3 m4 m5 m6
  | none =>
  cases m7 : stp pBeg s with
  | some t => exact rterm26_beg s t w hs d0 d1 d2 d3 m0 m1 m2 m3 m4 m5 m6 m7
  | none =>
  exact rterm26_any s w hs d0 d1 d2 d3 m0 m1 m2 m3 m4 m5 m6 m7
end Go.Proofs.YtjjlmkleidbmhaaGreatDoor
end
section
namespace Go.Proofs.YtjjlmkleidbmhaaGreatDoor
open Go.ChangeShapes Go.WideShapes Go.ChangeAt Go.Deep
open Go.RowKit Go.Nst
set_option maxRecDepth 100000
set_option linter.unusedVariables false
set_option linter.unusedSimpArgs false

section
variable {P : Program} {Q : Exit → Act → List Frame → World → Prop} {ops : Array Oper} {i : Nat} {rest : List Nat} {o : Oper} {a : Act} {cs cs' : List Frame} {w w' : World} {v : Value}
theorem wpOpsS_value (ho : ops[i]? = some o) (hw : Region.wanted o (yielded ops a.tmps) = true) (hr : (execOp a.eval o).run P w = .ok (.value v) w') (h : wpOpsS P ops Q rest (a.put o.dst v) cs w') : wpOpsS P ops Q (i :: rest) a cs w := by
  simp only [wpOpsS, ho, hw, if_true, hr]
  exact h
theorem wpOpsS_recover (ho : ops[i]? = some o) (hw : Region.wanted o (yielded ops a.tmps) = true) (hr : (execOp a.eval o).run P w = .ok .recover w') (hc : recoverD cs = some (v, cs')) (h : wpOpsS P ops Q rest (a.put o.dst v) cs' w') : wpOpsS P ops Q (i :: rest) a cs w := by
  simp only [wpOpsS, ho, hw, if_true, hr, hc]
  exact h
theorem wpOpsS_recover_no (ho : ops[i]? = some o) (hw : Region.wanted o (yielded ops a.tmps) = true) (hr : (execOp a.eval o).run P w = .ok .recover w') (hc : recoverD cs = none) (h : wpOpsS P ops Q rest (a.put o.dst .nilIface) cs w') : wpOpsS P ops Q (i :: rest) a cs w := by
  simp only [wpOpsS, ho, hw, if_true, hr, hc]
  exact h
theorem wpOpsS_nil (h : Q .normal a cs w) : wpOpsS P ops Q [] a cs w := h
end
theorem recoverD_pan {c : Frame} {cs : List Frame} {v : Value} {older : List PanicEntry} (hu : c.mode = .panicking ({ v := v, recovered := false } :: older)) : recoverD (c :: cs) = some (v, { c with mode := .panicking ({ v := v, recovered := true } :: older) } :: cs) := by
  simp [recoverD, hu]
end Go.Proofs.YtjjlmkleidbmhaaGreatDoor
end
section
namespace Go.Proofs.YtjjlmkleidbmhaaGreatDoor
open Go.ChangeShapes Go.WideShapes Go.ChangeAt Go.Deep
open Go.RowKit Go.Nst
set_option maxRecDepth 100000
set_option linter.unusedVariables false
set_option linter.unusedSimpArgs false

set_option maxHeartbeats 400000 in
theorem catch26_yes (R0 R1 R2 : Nat) (z : Int) (z1 : Int) (b2 : Bool) (w : World) (v0 v1 v2 v3 : Value) (h0 : Blk w R0 25 #[v0, v1, v2, v3]) (h1 : w.cell? ⟨R1, 0, none⟩ = some (.int .i64 z1)) (h2 : w.cell? ⟨R2, 0, none⟩ = some (.bool b2)) (f1 : w.frozen? ⟨R1, 0, none⟩ = false) (f2 : w.frozen? ⟨R2, 0, none⟩ = false) (n1 : R1 ≠ R0) (n2 : R2 ≠ R0) (n3 : R2 ≠ R1) :
    CallsD Tryz.prog 31 #[.pointer (some ⟨R0, 0, none⟩), .pointer (some ⟨R1, 0, none⟩), .pointer (some ⟨R2, 0, none⟩)] (.panicking [{ v := .iface 59 (.int .i64 z), recovered := false }]) w fun e u' w' =>
      e = .returned (.tuple #[]) ∧ u' = .panicking [{ v := .iface 59 (.int .i64 z), recovered := true }] ∧ w' = ((((((w.setCell ⟨R0, 0, none⟩ (.int .i64 0)).setCell ⟨R0, 1, none⟩ (.int .i64 0)).setCell ⟨R0, 2, none⟩ (.string ⟨#[]⟩)).setCell ⟨R0, 3, none⟩ (.slice none 0 0)).setCell ⟨R1, 0, none⟩ (.int .i64 z)).setCell ⟨R2, 0, none⟩ (.bool false)) := by
  obtain ⟨k0, k1, k2, k3, k4, k5⟩ := res_facts h0
  refine callsD_of_wpS Tryz.func31 rfl fun c₀ cs hu => ?_
  simp only [Tryz.ntmps31, List.size_toArray, List.length_cons, List.length_nil, Nat.reduceAdd, Nat.reduceSub, Array.replicate_succ, Array.replicate_zero, List.push_toArray, List.append_toArray, List.nil_append, List.cons_append]
  have hta : ∀ W, (Instr.typeAssert (.iface 59 (.int .i64 z)) 20 59 true).run Tryz.prog W = .ok (.tuple #[.int .i64 z, .bool true]) W := fun W => by kernel_rfl
  apply wpS_seq
  apply wpS_region
  show wpOpsS _ _ _ [0, 1, 2, 3, 4, 5, 6] _ _ _
  refine wpOpsS_recover (o := ⟨_, _, _, _, _, _⟩) rfl rfl (by simp only [execOp]; rfl) (recoverD_pan hu) ?_
  simp only [Act.put, List.setIfInBounds_toArray, List.set_cons_zero, List.set_cons_succ]
  iterate 6 (refine wpOpsS_value (o := ⟨_, _, _, _, _, _⟩) (v := ?_) (w' := w) rfl rfl ?_ ?_; rotate_left; (focus (go_simp; first | done | with_reducible rfl)); simp only [Act.put, List.setIfInBounds_toArray, List.set_cons_zero, List.set_cons_succ])
  refine wpOpsS_nil ?_
  simp only [Exit.thenS]
  refine wpS_of_wp ?_
  go_wp2_with fail
  exact ⟨rfl, _, rfl, _, (by simp [results, Tryz.results31, go_sem]), rfl, rfl, rfl⟩
theorem recoverD_ret {c : Frame} {cs : List Frame} (hu : c.mode = .returning) : recoverD (c :: cs) = none := by
  simp [recoverD, hu]
/-- the deferred call of a frame that returns -/
theorem catch26_idle (R0 R1 R2 : Nat) (w : World) :
    CallsD Tryz.prog 31 #[.pointer (some ⟨R0, 0, none⟩), .pointer (some ⟨R1, 0, none⟩), .pointer (some ⟨R2, 0, none⟩)] .returning w fun e u' w' => e = .returned (.tuple #[]) ∧ u' = .returning ∧ w' = w := by
  refine callsD_of_wpS Tryz.func31 rfl fun c₀ cs hu => ?_
  simp only [Tryz.ntmps31, List.size_toArray, List.length_cons, List.length_nil, Nat.reduceAdd, Nat.reduceSub, Array.replicate_succ, Array.replicate_zero, List.push_toArray, List.append_toArray, List.nil_append, List.cons_append]
  have hta : ∀ W, (Instr.typeAssert .nilIface 20 59 true).run Tryz.prog W = .ok (.tuple #[.int .i64 0, .bool false]) W := fun W => by kernel_rfl
  apply wpS_seq
  apply wpS_region
  show wpOpsS _ _ _ [0, 1, 2, 3, 4, 5, 6] _ _ _
  refine wpOpsS_recover_no (o := ⟨_, _, _, _, _, _⟩) rfl rfl (by simp only [execOp]; rfl) (recoverD_ret hu) ?_
  simp only [Act.put, List.setIfInBounds_toArray, List.set_cons_zero, List.set_cons_succ]
  iterate 6 (refine wpOpsS_value (o := ⟨_, _, _, _, _, _⟩) (v := ?_) (w' := w) rfl rfl ?_ ?_; rotate_left; (focus (go_simp; first | done | with_reducible rfl)); simp only [Act.put, List.setIfInBounds_toArray, List.set_cons_zero, List.set_cons_succ])
  refine wpOpsS_nil ?_
  simp only [Exit.thenS]
  refine wpS_of_wp ?_
  go_wp2_with fail
  cases c₀
  simp only at hu
  subst hu
  exact ⟨rfl, _, rfl, _, (by simp [results, Tryz.results31, go_sem]), rfl, rfl, rfl⟩
end Go.Proofs.YtjjlmkleidbmhaaGreatDoor
end
