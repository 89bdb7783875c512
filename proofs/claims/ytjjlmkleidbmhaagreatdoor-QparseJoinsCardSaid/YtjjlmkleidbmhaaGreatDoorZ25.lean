/-
  Queries' texts and what they lean on, part 25: only what the claims need.
-/
import Derived.Test.YtjjlmkleidbmhaaGreatDoorZ21
import Derived.Test.YtjjlmkleidbmhaaGreatDoorZ22
import Derived.Test.YtjjlmkleidbmhaaGreatDoorZ24
section
namespace Go.Proofs.YtjjlmkleidbmhaaGreatDoor
open Go.ChangeShapes Go.WideShapes Go.ChangeAt Go.Deep
open Go.RowKit Go.Nst
set_option maxRecDepth 100000
set_option linter.unusedVariables false
set_option linter.unusedSimpArgs false

theorem retTm_no26 {tm : Option Qy} {w w' : World} (h : tm = none) (hb : Below w.heap.size w w') : RetTm tm w (.returned (.tuple #[.agg #[.int .i64 0, .int .i64 0, .string ⟨#[]⟩, .slice none 0 0], .bool false])) w' := by
  subst h
  exact ⟨.zero, _, rfl, QAt.zero26, hb, fun q' h => by cases h⟩
theorem chk_no26 {q : Qy} (h : okQ q = false) : chkQ q = none := by
  unfold chkQ
  rw [h]
  rfl
theorem rcheck_leaf (o n : Int) (t : List UInt8) (ho : i64P o) (hn : i64P n) (ht : t.length ≤ 2048) (W : World) : Calls Tryz.prog 14 #[.agg #[.int .i64 o, .int .i64 n, .string ⟨t.toArray⟩, .slice none 0 0]] W fun e w' => e = .returned (.bool (okQ ⟨o, n, t, []⟩)) ∧ Below W.heap.size W w' :=
  refCheck25_any ⟨o, n, t, []⟩ (fun _ => ⟨by simp [nodQ, nodL], .mk (by omega) (by simp)⟩) _ W (fun _ => False) (QAt.leaf ho hn (by omega))
theorem numD_i64 (t : List UInt8) (h : t.length ≤ 512) : i64P (numD t) := by
  unfold numD
  split
  · exact ⟨by omega, by omega⟩
  · rename_i h1
    split
    · rename_i hd
      have e := num_val t 0 hd
      have hb := numL_in (show t.all digB = true from hd)
      have h7 : t.length ≤ 7 := by omega
      have hp : (10 : Int) ^ t.length ≤ 10 ^ 7 := by
        rcases (by omega : t.length = 0 ∨ t.length = 1 ∨ t.length = 2 ∨ t.length = 3 ∨ t.length = 4 ∨ t.length = 5 ∨ t.length = 6 ∨ t.length = 7) with h | h | h | h | h | h | h | h <;> rw [h] <;> decide
      have e2 : ((valD t : Nat) : Int) = numL t := e
      rw [e2]
      exact ⟨by omega, by omega⟩
    · exact ⟨by omega, by omega⟩
set_option maxHeartbeats 2000000 in
theorem rterm26_all (w : World) : Calls Tryz.prog 73 #[.string ⟨#[97, 108, 108]⟩] w (RetTm (termD [97, 108, 108]) w) := by
  go_enter Tryz.func73, Tryz.ntmps73
  go_wp2_with fail
  go_loop [6] (fun i => ∃ z : Int, i = .int .i64 z ∧ 0 ≤ z ∧ z ≤ 0) (fun i => 5 - (intOf i).toNat)
  case atStart => exact ⟨0, rfl, by omega, by omega⟩
  case round =>
    obtain ⟨z, rfl, hz0, hz1⟩ := hrel
    obtain rfl : z = 0 := by omega
    · go_wp2_with fail
      have y := (((Blk.new w 25 #[.int .i64 1, .int .i64 0, .string ⟨#[]⟩, .slice none 0 0]).alloc (.cells #[.string ⟨#[97, 108, 108]⟩, .string ⟨#[110, 111, 110, 101]⟩, .string ⟨#[117, 110, 114, 101, 97, 100]⟩, .string ⟨#[115, 116, 97, 114, 114, 101, 100]⟩] 9)).alloc (.cells #[.int .i64 1, .int .i64 2, .int .i64 9, .int .i64 10] 3))
      have y0 := y.cell 0
      have y1 := y.cell 1
      have y2 := y.cell 2
      have y3 := y.cell 3
      simp at y0 y1 y2 y3
      try simp only [Exit.inBlock, Exit.then]
      exact bodyPost_ret (v := .tuple #[.agg #[.int .i64 1, .int .i64 0, .string ⟨#[]⟩, .slice none 0 0], .bool true]) (by simp [results, Tryz.results73, go_sem, y0, y1, y2, y3]) rfl (retTm_of (q := ⟨1, 0, [], []⟩) true (by decide +kernel) (by kernel_rfl) (QAt.leaf (s := []) (i64P_lit (by omega)) (i64P_lit (by omega)) (by simp)) (bel_alloc (bel_alloc (bel_alloc (Below.refl _ _) _) _) _))
set_option maxHeartbeats 2000000 in
theorem rterm26_none (w : World) : Calls Tryz.prog 73 #[.string ⟨#[110, 111, 110, 101]⟩] w (RetTm (termD [110, 111, 110, 101]) w) := by
  go_enter Tryz.func73, Tryz.ntmps73
  go_wp2_with fail
  go_loop [6] (fun i => ∃ z : Int, i = .int .i64 z ∧ 0 ≤ z ∧ z ≤ 1) (fun i => 5 - (intOf i).toNat)
  case atStart => exact ⟨0, rfl, by omega, by omega⟩
  case round =>
    obtain ⟨z, rfl, hz0, hz1⟩ := hrel
    rcases (by omega : z = 0 ∨ z = 1) with rfl | rfl
    · go_wp2_with fail
      go_round
      case rel => exact ⟨1, by go_num, by omega, by omega⟩
      case measure => simp [intOf]
    · go_wp2_with fail
      have y := (((Blk.new w 25 #[.int .i64 2, .int .i64 0, .string ⟨#[]⟩, .slice none 0 0]).alloc (.cells #[.string ⟨#[97, 108, 108]⟩, .string ⟨#[110, 111, 110, 101]⟩, .string ⟨#[117, 110, 114, 101, 97, 100]⟩, .string ⟨#[115, 116, 97, 114, 114, 101, 100]⟩] 9)).alloc (.cells #[.int .i64 1, .int .i64 2, .int .i64 9, .int .i64 10] 3))
      have y0 := y.cell 0
      have y1 := y.cell 1
      have y2 := y.cell 2
      have y3 := y.cell 3
      simp at y0 y1 y2 y3
      try simp only [Exit.inBlock, Exit.then]
      exact bodyPost_ret (v := .tuple #[.agg #[.int .i64 2, .int .i64 0, .string ⟨#[]⟩, .slice none 0 0], .bool true]) (by simp [results, Tryz.results73, go_sem, y0, y1, y2, y3]) rfl (retTm_of (q := ⟨2, 0, [], []⟩) true (by decide +kernel) (by kernel_rfl) (QAt.leaf (s := []) (i64P_lit (by omega)) (i64P_lit (by omega)) (by simp)) (bel_alloc (bel_alloc (bel_alloc (Below.refl _ _) _) _) _))
set_option maxHeartbeats 2000000 in
theorem rterm26_unread (w : World) : Calls Tryz.prog 73 #[.string ⟨#[117, 110, 114, 101, 97, 100]⟩] w (RetTm (termD [117, 110, 114, 101, 97, 100]) w) := by
  go_enter Tryz.func73, Tryz.ntmps73
  go_wp2_with fail
  go_loop [6] (fun i => ∃ z : Int, i = .int .i64 z ∧ 0 ≤ z ∧ z ≤ 2) (fun i => 5 - (intOf i).toNat)
  case atStart => exact ⟨0, rfl, by omega, by omega⟩
  case round =>
    obtain ⟨z, rfl, hz0, hz1⟩ := hrel
    rcases (by omega : z = 0 ∨ z = 1 ∨ z = 2) with rfl | rfl | rfl
    · go_wp2_with fail
      go_round
      case rel => exact ⟨1, by go_num, by omega, by omega⟩
      case measure => simp [intOf]
    · go_wp2_with fail
      go_round
      case rel => exact ⟨2, by go_num, by omega, by omega⟩
      case measure => simp [intOf]
    · go_wp2_with fail
      have y := (((Blk.new w 25 #[.int .i64 9, .int .i64 0, .string ⟨#[]⟩, .slice none 0 0]).alloc (.cells #[.string ⟨#[97, 108, 108]⟩, .string ⟨#[110, 111, 110, 101]⟩, .string ⟨#[117, 110, 114, 101, 97, 100]⟩, .string ⟨#[115, 116, 97, 114, 114, 101, 100]⟩] 9)).alloc (.cells #[.int .i64 1, .int .i64 2, .int .i64 9, .int .i64 10] 3))
      have y0 := y.cell 0
      have y1 := y.cell 1
      have y2 := y.cell 2
      have y3 := y.cell 3
      simp at y0 y1 y2 y3
      try simp only [Exit.inBlock, Exit.then]
      exact bodyPost_ret (v := .tuple #[.agg #[.int .i64 9, .int .i64 0, .string ⟨#[]⟩, .slice none 0 0], .bool true]) (by simp [results, Tryz.results73, go_sem, y0, y1, y2, y3]) rfl (retTm_of (q := ⟨9, 0, [], []⟩) true (by decide +kernel) (by kernel_rfl) (QAt.leaf (s := []) (i64P_lit (by omega)) (i64P_lit (by omega)) (by simp)) (bel_alloc (bel_alloc (bel_alloc (Below.refl _ _) _) _) _))
set_option maxHeartbeats 2000000 in
theorem rterm26_starred (w : World) : Calls Tryz.prog 73 #[.string ⟨#[115, 116, 97, 114, 114, 101, 100]⟩] w (RetTm (termD [115, 116, 97, 114, 114, 101, 100]) w) := by
  go_enter Tryz.func73, Tryz.ntmps73
  go_wp2_with fail
  go_loop [6] (fun i => ∃ z : Int, i = .int .i64 z ∧ 0 ≤ z ∧ z ≤ 3) (fun i => 5 - (intOf i).toNat)
  case atStart => exact ⟨0, rfl, by omega, by omega⟩
  case round =>
    obtain ⟨z, rfl, hz0, hz1⟩ := hrel
    rcases (by omega : z = 0 ∨ z = 1 ∨ z = 2 ∨ z = 3) with rfl | rfl | rfl | rfl
    · go_wp2_with fail
      go_round
      case rel => exact ⟨1, by go_num, by omega, by omega⟩
      case measure => simp [intOf]
    · go_wp2_with fail
      go_round
      case rel => exact ⟨2, by go_num, by omega, by omega⟩
      case measure => simp [intOf]
    · go_wp2_with fail
      go_round
      case rel => exact ⟨3, by go_num, by omega, by omega⟩
      case measure => simp [intOf]
    · go_wp2_with fail
      have y := (((Blk.new w 25 #[.int .i64 10, .int .i64 0, .string ⟨#[]⟩, .slice none 0 0]).alloc (.cells #[.string ⟨#[97, 108, 108]⟩, .string ⟨#[110, 111, 110, 101]⟩, .string ⟨#[117, 110, 114, 101, 97, 100]⟩, .string ⟨#[115, 116, 97, 114, 114, 101, 100]⟩] 9)).alloc (.cells #[.int .i64 1, .int .i64 2, .int .i64 9, .int .i64 10] 3))
      have y0 := y.cell 0
      have y1 := y.cell 1
      have y2 := y.cell 2
      have y3 := y.cell 3
      simp at y0 y1 y2 y3
      try simp only [Exit.inBlock, Exit.then]
      exact bodyPost_ret (v := .tuple #[.agg #[.int .i64 10, .int .i64 0, .string ⟨#[]⟩, .slice none 0 0], .bool true]) (by simp [results, Tryz.results73, go_sem, y0, y1, y2, y3]) rfl (retTm_of (q := ⟨10, 0, [], []⟩) true (by decide +kernel) (by kernel_rfl) (QAt.leaf (s := []) (i64P_lit (by omega)) (i64P_lit (by omega)) (by simp)) (bel_alloc (bel_alloc (bel_alloc (Below.refl _ _) _) _) _))
set_option maxHeartbeats 8000000 in
theorem rterm26_fee (s t : List UInt8) (w : World) (hs : s.length ≤ 512) (d0 : (s == [97, 108, 108]) = false) (d1 : (s == [110, 111, 110, 101]) = false) (d2 : (s == [117, 110, 114, 101, 97, 100]) = false) (d3 : (s == [115, 116, 97, 114, 114, 101, 100]) = false)  (hst : stp pFee s = some t) : Calls Tryz.prog 73 #[.string ⟨s.toArray⟩] w (RetTm (termD s) w) := by
  have HTM : Hid (termD s = chkQ ⟨6, numD t, [], []⟩) := Lib.hid (by
    unfold termD
    rw [if_neg (by simpa [tAll] using d0), if_neg (by simpa [tNon] using d1), if_neg (by simpa [tUnr] using d2), if_neg (by simpa [tSta] using d3)]
    simp only [hst])
  have HB0 := Lib.hid (fun W => behind26_yes s [102, 101, 101, 100, 58] t hs (by decide) hst W)
  have htl : t.length ≤ 512 := by rw [stp_yes26 hst, List.length_append] at hs; omega
  have ho : i64P 6 := i64P_lit (z := 6) (by omega)
  have hn := numD_i64 t htl
  have HNUM := Lib.hid (fun W => rnum26_any ⟨t.toArray⟩ W (by rw [size_of]; exact htl))
  simp only [bl_of] at HNUM
  generalize numD t = nn at *
  have ht : ([] : List UInt8).length ≤ 2048 := by decide
  have HCK := Lib.hid (fun W => rcheck_leaf 6 nn [] ho hn ht W)
  have HLF : Hid (∀ {W : World}, QAt W (fun b => w.heap.size ≤ b) #[.int .i64 6, .int .i64 nn, .string ⟨([] : List UInt8).toArray⟩, .slice none 0 0] ⟨6, nn, [], []⟩) := Lib.hid (QAt.leaf ho hn (by omega))
  generalize hbb : okQ ⟨6, nn, [], []⟩ = b at HCK
  have HBB := Lib.hid hbb
  clear hbb
  generalize termD s = tm at *
  clear hst
  go_enter Tryz.func73, Tryz.ntmps73
  go_wp2_with fail
  go_loop [6] (fun i => ∃ z : Int, i = .int .i64 z ∧ 0 ≤ z ∧ z ≤ 4) (fun i => 5 - (intOf i).toNat)
  case atStart => exact ⟨0, rfl, by omega, by omega⟩
  case round =>
    obtain ⟨z, rfl, hz0, hz1⟩ := hrel
    rcases (by omega : z = 0 ∨ z = 1 ∨ z = 2 ∨ z = 3 ∨ z = 4) with rfl | rfl | rfl | rfl | rfl
    · go_wp2_with fail
      go_round
      case rel => exact ⟨1, by go_num, by omega, by omega⟩
      case measure => simp [intOf]
    · go_wp2_with fail
      go_round
      case rel => exact ⟨2, by go_num, by omega, by omega⟩
      case measure => simp [intOf]
    · go_wp2_with fail
      go_round
      case rel => exact ⟨3, by go_num, by omega, by omega⟩
      case measure => simp [intOf]
    · go_wp2_with fail
      go_round
      case rel => exact ⟨4, by go_num, by omega, by omega⟩
      case measure => simp [intOf]
    · clear d0 d1 d2 d3
      go_wp2_with fail
      go_loop [9] (fun i => ∃ z : Int, i = .int .i64 z ∧ 0 ≤ z ∧ z ≤ 0) (fun i => 9 - (intOf i).toNat)
      case atStart => exact ⟨0, rfl, by omega, by omega⟩
      case round =>
        obtain ⟨z, rfl, hz0, hz1⟩ := hrel
        obtain rfl : z = 0 := by omega
        go_wp2_with fail
        (with_reducible refine (HB0.out _).mono ?_)
        rintro _ w2 ⟨rfl, hw2⟩
        obtain rfl := hw2.symm
        go_wp2_with fail
        (with_reducible refine (HNUM.out _).mono ?_)
        rintro _ w3 ⟨rfl, hw3⟩
        obtain rfl := hw3.symm
        have B6 := Lib.hid (bel_alloc (bel_alloc (bel_alloc (bel_alloc (bel_alloc (bel_alloc (Below.refl w.heap.size w) (.cells #[.int .i64 0, .int .i64 0, .string ⟨#[]⟩, .slice none 0 0] 25)) (.cells #[.string ⟨#[97, 108, 108]⟩, .string ⟨#[110, 111, 110, 101]⟩, .string ⟨#[117, 110, 114, 101, 97, 100]⟩, .string ⟨#[115, 116, 97, 114, 114, 101, 100]⟩] 9)) (.cells #[.int .i64 1, .int .i64 2, .int .i64 9, .int .i64 10] 3)) (.cells #[.string ⟨#[102, 101, 101, 100, 58]⟩, .string ⟨#[102, 111, 108, 100, 101, 114, 58]⟩, .string ⟨#[119, 105, 116, 104, 105, 110, 58]⟩, .string ⟨#[98, 101, 102, 111, 114, 101, 58]⟩, .string ⟨#[115, 105, 110, 99, 101, 58]⟩, .string ⟨#[116, 97, 103, 58]⟩, .string ⟨#[119, 111, 114, 100, 58]⟩, .string ⟨#[98, 101, 103, 105, 110, 115, 58]⟩] 9)) (.cells #[.int .i64 6, .int .i64 7, .int .i64 15, .int .i64 13, .int .i64 14, .int .i64 8, .int .i64 11, .int .i64 12] 3)) (.cells #[.int .i64 6, .int .i64 nn, .string ⟨#[]⟩, .slice none 0 0] 25))
        have X6 := Lib.hid ((((((Blk.new w 25 #[.int .i64 0, .int .i64 0, .string ⟨#[]⟩, .slice none 0 0]).alloc (.cells #[.string ⟨#[97, 108, 108]⟩, .string ⟨#[110, 111, 110, 101]⟩, .string ⟨#[117, 110, 114, 101, 97, 100]⟩, .string ⟨#[115, 116, 97, 114, 114, 101, 100]⟩] 9)).alloc (.cells #[.int .i64 1, .int .i64 2, .int .i64 9, .int .i64 10] 3)).alloc (.cells #[.string ⟨#[102, 101, 101, 100, 58]⟩, .string ⟨#[102, 111, 108, 100, 101, 114, 58]⟩, .string ⟨#[119, 105, 116, 104, 105, 110, 58]⟩, .string ⟨#[98, 101, 102, 111, 114, 101, 58]⟩, .string ⟨#[115, 105, 110, 99, 101, 58]⟩, .string ⟨#[116, 97, 103, 58]⟩, .string ⟨#[119, 111, 114, 100, 58]⟩, .string ⟨#[98, 101, 103, 105, 110, 115, 58]⟩] 9)).alloc (.cells #[.int .i64 6, .int .i64 7, .int .i64 15, .int .i64 13, .int .i64 14, .int .i64 8, .int .i64 11, .int .i64 12] 3)).alloc (.cells #[.int .i64 6, .int .i64 nn, .string ⟨#[]⟩, .slice none 0 0] 25))
        have y6 := Blk.new (((((w.alloc (.cells #[.int .i64 0, .int .i64 0, .string ⟨#[]⟩, .slice none 0 0] 25)).alloc (.cells #[.string ⟨#[97, 108, 108]⟩, .string ⟨#[110, 111, 110, 101]⟩, .string ⟨#[117, 110, 114, 101, 97, 100]⟩, .string ⟨#[115, 116, 97, 114, 114, 101, 100]⟩] 9)).alloc (.cells #[.int .i64 1, .int .i64 2, .int .i64 9, .int .i64 10] 3)).alloc (.cells #[.string ⟨#[102, 101, 101, 100, 58]⟩, .string ⟨#[102, 111, 108, 100, 101, 114, 58]⟩, .string ⟨#[119, 105, 116, 104, 105, 110, 58]⟩, .string ⟨#[98, 101, 102, 111, 114, 101, 58]⟩, .string ⟨#[115, 105, 110, 99, 101, 58]⟩, .string ⟨#[116, 97, 103, 58]⟩, .string ⟨#[119, 111, 114, 100, 58]⟩, .string ⟨#[98, 101, 103, 105, 110, 115, 58]⟩] 9)).alloc (.cells #[.int .i64 6, .int .i64 7, .int .i64 15, .int .i64 13, .int .i64 14, .int .i64 8, .int .i64 11, .int .i64 12] 3)) 25 #[.int .i64 6, .int .i64 nn, .string ⟨#[]⟩, .slice none 0 0]
        rw [show (((((w.alloc (.cells #[.int .i64 0, .int .i64 0, .string ⟨#[]⟩, .slice none 0 0] 25)).alloc (.cells #[.string ⟨#[97, 108, 108]⟩, .string ⟨#[110, 111, 110, 101]⟩, .string ⟨#[117, 110, 114, 101, 97, 100]⟩, .string ⟨#[115, 116, 97, 114, 114, 101, 100]⟩] 9)).alloc (.cells #[.int .i64 1, .int .i64 2, .int .i64 9, .int .i64 10] 3)).alloc (.cells #[.string ⟨#[102, 101, 101, 100, 58]⟩, .string ⟨#[102, 111, 108, 100, 101, 114, 58]⟩, .string ⟨#[119, 105, 116, 104, 105, 110, 58]⟩, .string ⟨#[98, 101, 102, 111, 114, 101, 58]⟩, .string ⟨#[115, 105, 110, 99, 101, 58]⟩, .string ⟨#[116, 97, 103, 58]⟩, .string ⟨#[119, 111, 114, 100, 58]⟩, .string ⟨#[98, 101, 103, 105, 110, 115, 58]⟩] 9)).alloc (.cells #[.int .i64 6, .int .i64 7, .int .i64 15, .int .i64 13, .int .i64 14, .int .i64 8, .int .i64 11, .int .i64 12] 3)).heap.size = w.heap.size + 1 + 1 + 1 + 1 + 1 by simp] at y6
        have Y6 := Lib.hid y6
        clear y6
        obtain ⟨k0, k1, k2, k3, k4, k5⟩ := res_facts Y6.out
        go_wp2_with fail
        (with_reducible refine (HCK.out _).mono ?_)
        rintro _ w7 ⟨rfl, hb7⟩
        have X7 := Lib.hid (X6.out.below hb7 X6.out.lt)
        have Y7 := Lib.hid (Y6.out.below hb7 Y6.out.lt)
        have B7 := Lib.hid (bel_step B6.out hb7)
        obtain ⟨z0, z1, z2, z3, z4, z5⟩ := res_facts X7.out
        obtain ⟨n0, n1, n2, n3, n4, n5⟩ := res_facts Y7.out
        clear hb7
        cases b with
        | true =>
          go_wp2_with fail
          have y := set4 X7.out (.int .i64 6) (.int .i64 nn) (.string ⟨#[]⟩) (.slice none 0 0)
          have y0 := y.cell 0
          have y1 := y.cell 1
          have y2 := y.cell 2
          have y3 := y.cell 3
          simp at y0 y1 y2 y3
          try simp only [Exit.inBlock, Exit.then]
          exact bodyPost_ret (v := .tuple #[.agg #[.int .i64 6, .int .i64 nn, .string ⟨#[]⟩, .slice none 0 0], .bool true]) (by simp [results, Tryz.results73, go_sem, y0, y1, y2, y3]) rfl (retTm_of _ HBB.out HTM.out HLF.out (bel4 B7.out (Nat.le_refl _) _ _ _ _))
        | false =>
          go_wp2_with fail
          have y := set4 X7.out (.int .i64 0) (.int .i64 0) (.string ⟨#[]⟩) (.slice none 0 0)
          have y0 := y.cell 0
          have y1 := y.cell 1
          have y2 := y.cell 2
          have y3 := y.cell 3
          simp at y0 y1 y2 y3
          try simp only [Exit.inBlock, Exit.then]
          exact bodyPost_ret (v := .tuple #[.agg #[.int .i64 0, .int .i64 0, .string ⟨#[]⟩, .slice none 0 0], .bool false]) (by simp [results, Tryz.results73, go_sem, y0, y1, y2, y3]) rfl (retTm_no26 (HTM.out.trans (chk_no26 HBB.out)) (bel4 B7.out (Nat.le_refl _) _ _ _ _))
set_option maxHeartbeats 8000000 in
theorem rterm26_fol (s t : List UInt8) (w : World) (hs : s.length ≤ 512) (d0 : (s == [97, 108, 108]) = false) (d1 : (s == [110, 111, 110, 101]) = false) (d2 : (s == [117, 110, 114, 101, 97, 100]) = false) (d3 : (s == [115, 116, 97, 114, 114, 101, 100]) = false) (m0 : stp pFee s = none) (hst : stp pFol s = some t) : Calls Tryz.prog 73 #[.string ⟨s.toArray⟩] w (RetTm (termD s) w) := by
  have HTM : Hid (termD s = chkQ ⟨7, numD t, [], []⟩) := Lib.hid (by
    unfold termD
    rw [if_neg (by simpa [tAll] using d0), if_neg (by simpa [tNon] using d1), if_neg (by simpa [tUnr] using d2), if_neg (by simpa [tSta] using d3)]
    simp only [m0, hst])
  have HB0 := Lib.hid (fun W => behind26_no s [102, 101, 101, 100, 58] hs (by decide) m0 W)
  have HB1 := Lib.hid (fun W => behind26_yes s [102, 111, 108, 100, 101, 114, 58] t hs (by decide) hst W)
  have htl : t.length ≤ 512 := by rw [stp_yes26 hst, List.length_append] at hs; omega
  have ho : i64P 7 := i64P_lit (z := 7) (by omega)
  have hn := numD_i64 t htl
  have HNUM := Lib.hid (fun W => rnum26_any ⟨t.toArray⟩ W (by rw [size_of]; exact htl))
  simp only [bl_of] at HNUM
  generalize numD t = nn at *
  have ht : ([] : List UInt8).length ≤ 2048 := by decide
  have HCK := Lib.hid (fun W => rcheck_leaf 7 nn [] ho hn ht W)
  have HLF : Hid (∀ {W : World}, QAt W (fun b => w.heap.size ≤ b) #[.int .i64 7, .int .i64 nn, .string ⟨([] : List UInt8).toArray⟩, .slice none 0 0] ⟨7, nn, [], []⟩) := Lib.hid (QAt.leaf ho hn (by omega))
  generalize hbb : okQ ⟨7, nn, [], []⟩ = b at HCK
  have HBB := Lib.hid hbb
  clear hbb
  generalize termD s = tm at *
  clear m0 hst
  go_enter Tryz.func73, Tryz.ntmps73
  go_wp2_with fail
  go_loop [6] (fun i => ∃ z : Int, i = .int .i64 z ∧ 0 ≤ z ∧ z ≤ 4) (fun i => 5 - (intOf i).toNat)
  case atStart => exact ⟨0, rfl, by omega, by omega⟩
  case round =>
    obtain ⟨z, rfl, hz0, hz1⟩ := hrel
    rcases (by omega : z = 0 ∨ z = 1 ∨ z = 2 ∨ z = 3 ∨ z = 4) with rfl | rfl | rfl | rfl | rfl
    · go_wp2_with fail
      go_round
      case rel => exact ⟨1, by go_num, by omega, by omega⟩
      case measure => simp [intOf]
    · go_wp2_with fail
      go_round
      case rel => exact ⟨2, by go_num, by omega, by omega⟩
      case measure => simp [intOf]
    · go_wp2_with fail
      go_round
      case rel => exact ⟨3, by go_num, by omega, by omega⟩
      case measure => simp [intOf]
    · go_wp2_with fail
      go_round
      case rel => exact ⟨4, by go_num, by omega, by omega⟩
      case measure => simp [intOf]
    · clear d0 d1 d2 d3
      go_wp2_with fail
      go_loop [9] (fun i => ∃ z : Int, i = .int .i64 z ∧ 0 ≤ z ∧ z ≤ 1) (fun i => 9 - (intOf i).toNat)
      case atStart => exact ⟨0, rfl, by omega, by omega⟩
      case round =>
        obtain ⟨z, rfl, hz0, hz1⟩ := hrel
        rcases (by omega : z = 0 ∨ z = 1) with rfl | rfl
        · go_wp2_with fail
          (with_reducible refine (HB0.out _).mono ?_)
          rintro _ w2 ⟨rfl, hw2⟩
          obtain rfl := hw2.symm
          go_wp2_with fail
          go_round
          case rel => exact ⟨1, by go_num, by omega, by omega⟩
          case measure => simp [intOf]
        · go_wp2_with fail
          (with_reducible refine (HB1.out _).mono ?_)
          rintro _ w2 ⟨rfl, hw2⟩
          obtain rfl := hw2.symm
          go_wp2_with fail
          (with_reducible refine (HNUM.out _).mono ?_)
          rintro _ w3 ⟨rfl, hw3⟩
          obtain rfl := hw3.symm
          have B6 := Lib.hid (bel_alloc (bel_alloc (bel_alloc (bel_alloc (bel_alloc (bel_alloc (Below.refl w.heap.size w) (.cells #[.int .i64 0, .int .i64 0, .string ⟨#[]⟩, .slice none 0 0] 25)) (.cells #[.string ⟨#[97, 108, 108]⟩, .string ⟨#[110, 111, 110, 101]⟩, .string ⟨#[117, 110, 114, 101, 97, 100]⟩, .string ⟨#[115, 116, 97, 114, 114, 101, 100]⟩] 9)) (.cells #[.int .i64 1, .int .i64 2, .int .i64 9, .int .i64 10] 3)) (.cells #[.string ⟨#[102, 101, 101, 100, 58]⟩, .string ⟨#[102, 111, 108, 100, 101, 114, 58]⟩, .string ⟨#[119, 105, 116, 104, 105, 110, 58]⟩, .string ⟨#[98, 101, 102, 111, 114, 101, 58]⟩, .string ⟨#[115, 105, 110, 99, 101, 58]⟩, .string ⟨#[116, 97, 103, 58]⟩, .string ⟨#[119, 111, 114, 100, 58]⟩, .string ⟨#[98, 101, 103, 105, 110, 115, 58]⟩] 9)) (.cells #[.int .i64 6, .int .i64 7, .int .i64 15, .int .i64 13, .int .i64 14, .int .i64 8, .int .i64 11, .int .i64 12] 3)) (.cells #[.int .i64 7, .int .i64 nn, .string ⟨#[]⟩, .slice none 0 0] 25))
          have X6 := Lib.hid ((((((Blk.new w 25 #[.int .i64 0, .int .i64 0, .string ⟨#[]⟩, .slice none 0 0]).alloc (.cells #[.string ⟨#[97, 108, 108]⟩, .string ⟨#[110, 111, 110, 101]⟩, .string ⟨#[117, 110, 114, 101, 97, 100]⟩, .string ⟨#[115, 116, 97, 114, 114, 101, 100]⟩] 9)).alloc (.cells #[.int .i64 1, .int .i64 2, .int .i64 9, .int .i64 10] 3)).alloc (.cells #[.string ⟨#[102, 101, 101, 100, 58]⟩, .string ⟨#[102, 111, 108, 100, 101, 114, 58]⟩, .string ⟨#[119, 105, 116, 104, 105, 110, 58]⟩, .string ⟨#[98, 101, 102, 111, 114, 101, 58]⟩, .string ⟨#[115, 105, 110, 99, 101, 58]⟩, .string ⟨#[116, 97, 103, 58]⟩, .string ⟨#[119, 111, 114, 100, 58]⟩, .string ⟨#[98, 101, 103, 105, 110, 115, 58]⟩] 9)).alloc (.cells #[.int .i64 6, .int .i64 7, .int .i64 15, .int .i64 13, .int .i64 14, .int .i64 8, .int .i64 11, .int .i64 12] 3)).alloc (.cells #[.int .i64 7, .int .i64 nn, .string ⟨#[]⟩, .slice none 0 0] 25))
          have y6 := Blk.new (((((w.alloc (.cells #[.int .i64 0, .int .i64 0, .string ⟨#[]⟩, .slice none 0 0] 25)).alloc (.cells #[.string ⟨#[97, 108, 108]⟩, .string ⟨#[110, 111, 110, 101]⟩, .string ⟨#[117, 110, 114, 101, 97, 100]⟩, .string ⟨#[115, 116, 97, 114, 114, 101, 100]⟩] 9)).alloc (.cells #[.int .i64 1, .int .i64 2, .int .i64 9, .int .i64 10] 3)).alloc (.cells #[.string ⟨#[102, 101, 101, 100, 58]⟩, .string ⟨#[102, 111, 108, 100, 101, 114, 58]⟩, .string ⟨#[119, 105, 116, 104, 105, 110, 58]⟩, .string ⟨#[98, 101, 102, 111, 114, 101, 58]⟩, .string ⟨#[115, 105, 110, 99, 101, 58]⟩, .string ⟨#[116, 97, 103, 58]⟩, .string ⟨#[119, 111, 114, 100, 58]⟩, .string ⟨#[98, 101, 103, 105, 110, 115, 58]⟩] 9)).alloc (.cells #[.int .i64 6, .int .i64 7, .int .i64 15, .int .i64 13, .int .i64 14, .int .i64 8, .int .i64 11, .int .i64 12] 3)) 25 #[.int .i64 7, .int .i64 nn, .string ⟨#[]⟩, .slice none 0 0]
          rw [show (((((w.alloc (.cells #[.int .i64 0, .int .i64 0, .string ⟨#[]⟩, .slice none 0 0] 25)).alloc (.cells #[.string ⟨#[97, 108, 108]⟩, .string ⟨#[110, 111, 110, 101]⟩, .string ⟨#[117, 110, 114, 101, 97, 100]⟩, .string ⟨#[115, 116, 97, 114, 114, 101, 100]⟩] 9)).alloc (.cells #[.int .i64 1, .int .i64 2, .int .i64 9, .int .i64 10] 3)).alloc (.cells #[.string ⟨#[102, 101, 101, 100, 58]⟩, .string ⟨#[102, 111, 108, 100, 101, 114, 58]⟩, .string ⟨#[119, 105, 116, 104, 105, 110, 58]⟩, .string ⟨#[98, 101, 102, 111, 114, 101, 58]⟩, .string ⟨#[115, 105, 110, 99, 101, 58]⟩, .string ⟨#[116, 97, 103, 58]⟩, .string ⟨#[119, 111, 114, 100, 58]⟩, .string ⟨#[98, 101, 103, 105, 110, 115, 58]⟩] 9)).alloc (.cells #[.int .i64 6, .int .i64 7, .int .i64 15, .int .i64 13, .int .i64 14, .int .i64 8, .int .i64 11, .int .i64 12] 3)).heap.size = w.heap.size + 1 + 1 + 1 + 1 + 1 by simp] at y6
          have Y6 := Lib.hid y6
          clear y6
          obtain ⟨k0, k1, k2, k3, k4, k5⟩ := res_facts Y6.out
          go_wp2_with fail
          (with_reducible refine (HCK.out _).mono ?_)
          rintro _ w7 ⟨rfl, hb7⟩
          have X7 := Lib.hid (X6.out.below hb7 X6.out.lt)
          have Y7 := Lib.hid (Y6.out.below hb7 Y6.out.lt)
          have B7 := Lib.hid (bel_step B6.out hb7)
          obtain ⟨z0, z1, z2, z3, z4, z5⟩ := res_facts X7.out
          obtain ⟨n0, n1, n2, n3, n4, n5⟩ := res_facts Y7.out
          clear hb7
          cases b with
          | true =>
            go_wp2_with fail
            have y := set4 X7.out (.int .i64 7) (.int .i64 nn) (.string ⟨#[]⟩) (.slice none 0 0)
            have y0 := y.cell 0
            have y1 := y.cell 1
            have y2 := y.cell 2
            have y3 := y.cell 3
            simp at y0 y1 y2 y3
            try simp only [Exit.inBlock, Exit.then]
            exact bodyPost_ret (v := .tuple #[.agg #[.int .i64 7, .int .i64 nn, .string ⟨#[]⟩, .slice none 0 0], .bool true]) (by simp [results, Tryz.results73, go_sem, y0, y1, y2, y3]) rfl (retTm_of _ HBB.out HTM.out HLF.out (bel4 B7.out (Nat.le_refl _) _ _ _ _))
          | false =>
            go_wp2_with fail
            have y := set4 X7.out (.int .i64 0) (.int .i64 0) (.string ⟨#[]⟩) (.slice none 0 0)
            have y0 := y.cell 0
            have y1 := y.cell 1
            have y2 := y.cell 2
            have y3 := y.cell 3
            simp at y0 y1 y2 y3
            try simp only [Exit.inBlock, Exit.then]
            exact bodyPost_ret (v := .tuple #[.agg #[.int .i64 0, .int .i64 0, .string ⟨#[]⟩, .slice none 0 0], .bool false]) (by simp [results, Tryz.results73, go_sem, y0, y1, y2, y3]) rfl (retTm_no26 (HTM.out.trans (chk_no26 HBB.out)) (bel4 B7.out (Nat.le_refl _) _ _ _ _))
set_option maxHeartbeats 8000000 in
theorem rterm26_wit (s t : List UInt8) (w : World) (hs : s.length ≤ 512) (d0 : (s == [97, 108, 108]) = false) (d1 : (s == [110, 111, 110, 101]) = false) (d2 : (s == [117, 110, 114, 101, 97, 100]) = false) (d3 : (s == [115, 116, 97, 114, 114, 101, 100]) = false) (m0 : stp pFee s = none) (m1 : stp pFol s = none) (hst : stp pWit s = some t) : Calls Tryz.prog 73 #[.string ⟨s.toArray⟩] w (RetTm (termD s) w) := by
  have HTM : Hid (termD s = chkQ ⟨15, numD t, [], []⟩) := Lib.hid (by
    unfold termD
    rw [if_neg (by simpa [tAll] using d0), if_neg (by simpa [tNon] using d1), if_neg (by simpa [tUnr] using d2), if_neg (by simpa [tSta] using d3)]
    simp only [m0, m1, hst])
  have HB0 := Lib.hid (fun W => behind26_no s [102, 101, 101, 100, 58] hs (by decide) m0 W)
  have HB1 := Lib.hid (fun W => behind26_no s [102, 111, 108, 100, 101, 114, 58] hs (by decide) m1 W)
  have HB2 := Lib.hid (fun W => behind26_yes s [119, 105, 116, 104, 105, 110, 58] t hs (by decide) hst W)
  have htl : t.length ≤ 512 := by rw [stp_yes26 hst, List.length_append] at hs; omega
  have ho : i64P 15 := i64P_lit (z := 15) (by omega)
  have hn := numD_i64 t htl
  have HNUM := Lib.hid (fun W => rnum26_any ⟨t.toArray⟩ W (by rw [size_of]; exact htl))
  simp only [bl_of] at HNUM
  generalize numD t = nn at *
  have ht : ([] : List UInt8).length ≤ 2048 := by decide
  have HCK := Lib.hid (fun W => rcheck_leaf 15 nn [] ho hn ht W)
  have HLF : Hid (∀ {W : World}, QAt W (fun b => w.heap.size ≤ b) #[.int .i64 15, .int .i64 nn, .string ⟨([] : List UInt8).toArray⟩, .slice none 0 0] ⟨15, nn, [], []⟩) := Lib.hid (QAt.leaf ho hn (by omega))
  generalize hbb : okQ ⟨15, nn, [], []⟩ = b at HCK
  have HBB := Lib.hid hbb
  clear hbb
  generalize termD s = tm at *
  clear m0 m1 hst
  go_enter Tryz.func73, Tryz.ntmps73
  go_wp2_with fail
  go_loop [6] (fun i => ∃ z : Int, i = .int .i64 z ∧ 0 ≤ z ∧ z ≤ 4) (fun i => 5 - (intOf i).toNat)
  case atStart => exact ⟨0, rfl, by omega, by omega⟩
  case round =>
    obtain ⟨z, rfl, hz0, hz1⟩ := hrel
    rcases (by omega : z = 0 ∨ z = 1 ∨ z = 2 ∨ z = 3 ∨ z = 4) with rfl | rfl | rfl | rfl | rfl
    · go_wp2_with fail
      go_round
      case rel => exact ⟨1, by go_num, by omega, by omega⟩
      case measure => simp [intOf]
    · go_wp2_with fail
      go_round
      case rel => exact ⟨2, by go_num, by omega, by omega⟩
      case measure => simp [intOf]
    · go_wp2_with fail
      go_round
      case rel => exact ⟨3, by go_num, by omega, by omega⟩
      case measure => simp [intOf]
    · go_wp2_with fail
      go_round
      case rel => exact ⟨4, by go_num, by omega, by omega⟩
      case measure => simp [intOf]
    · clear d0 d1 d2 d3
      go_wp2_with fail
      go_loop [9] (fun i => ∃ z : Int, i = .int .i64 z ∧ 0 ≤ z ∧ z ≤ 2) (fun i => 9 - (intOf i).toNat)
      case atStart => exact ⟨0, rfl, by omega, by omega⟩
      case round =>
        obtain ⟨z, rfl, hz0, hz1⟩ := hrel
        rcases (by omega : z = 0 ∨ z = 1 ∨ z = 2) with rfl | rfl | rfl
        · go_wp2_with fail
          (with_reducible refine (HB0.out _).mono ?_)
          rintro _ w2 ⟨rfl, hw2⟩
          obtain rfl := hw2.symm
          go_wp2_with fail
          go_round
          case rel => exact ⟨1, by go_num, by omega, by omega⟩
          case measure => simp [intOf]
        · go_wp2_with fail
          (with_reducible refine (HB1.out _).mono ?_)
          rintro _ w2 ⟨rfl, hw2⟩
          obtain rfl := hw2.symm
          go_wp2_with fail
          go_round
          case rel => exact ⟨2, by go_num, by omega, by omega⟩
          case measure => simp [intOf]
        · go_wp2_with fail
          (with_reducible refine (HB2.out _).mono ?_)
          rintro _ w2 ⟨rfl, hw2⟩
          obtain rfl := hw2.symm
          go_wp2_with fail
          (with_reducible refine (HNUM.out _).mono ?_)
          rintro _ w3 ⟨rfl, hw3⟩
          obtain rfl := hw3.symm
          have B6 := Lib.hid (bel_alloc (bel_alloc (bel_alloc (bel_alloc (bel_alloc (bel_alloc (Below.refl w.heap.size w) (.cells #[.int .i64 0, .int .i64 0, .string ⟨#[]⟩, .slice none 0 0] 25)) (.cells #[.string ⟨#[97, 108, 108]⟩, .string ⟨#[110, 111, 110, 101]⟩, .string ⟨#[117, 110, 114, 101, 97, 100]⟩, .string ⟨#[115, 116, 97, 114, 114, 101, 100]⟩] 9)) (.cells #[.int .i64 1, .int .i64 2, .int .i64 9, .int .i64 10] 3)) (.cells #[.string ⟨#[102, 101, 101, 100, 58]⟩, .string ⟨#[102, 111, 108, 100, 101, 114, 58]⟩, .string ⟨#[119, 105, 116, 104, 105, 110, 58]⟩, .string ⟨#[98, 101, 102, 111, 114, 101, 58]⟩, .string ⟨#[115, 105, 110, 99, 101, 58]⟩, .string ⟨#[116, 97, 103, 58]⟩, .string ⟨#[119, 111, 114, 100, 58]⟩, .string ⟨#[98, 101, 103, 105, 110, 115, 58]⟩] 9)) (.cells #[.int .i64 6, .int .i64 7, .int .i64 15, .int .i64 13, .int .i64 14, .int .i64 8, .int .i64 11, .int .i64 12] 3)) (.cells #[.int .i64 15, .int .i64 nn, .string ⟨#[]⟩, .slice none 0 0] 25))
          have X6 := Lib.hid ((((((Blk.new w 25 #[.int .i64 0, .int .i64 0, .string ⟨#[]⟩, .slice none 0 0]).alloc (.cells #[.string ⟨#[97, 108, 108]⟩, .string ⟨#[110, 111, 110, 101]⟩, .string ⟨#[117, 110, 114, 101, 97, 100]⟩, .string ⟨#[115, 116, 97, 114, 114, 101, 100]⟩] 9)).alloc (.cells #[.int .i64 1, .int .i64 2, .int .i64 9, .int .i64 10] 3)).alloc (.cells #[.string ⟨#[102, 101, 101, 100, 58]⟩, .string ⟨#[102, 111, 108, 100, 101, 114, 58]⟩, .string ⟨#[119, 105, 116, 104, 105, 110, 58]⟩, .string ⟨#[98, 101, 102, 111, 114, 101, 58]⟩, .string ⟨#[115, 105, 110, 99, 101, 58]⟩, .string ⟨#[116, 97, 103, 58]⟩, .string ⟨#[119, 111, 114, 100, 58]⟩, .string ⟨#[98, 101, 103, 105, 110, 115, 58]⟩] 9)).alloc (.cells #[.int .i64 6, .int .i64 7, .int .i64 15, .int .i64 13, .int .i64 14, .int .i64 8, .int .i64 11, .int .i64 12] 3)).alloc (.cells #[.int .i64 15, .int .i64 nn, .string ⟨#[]⟩, .slice none 0 0] 25))
          have y6 := Blk.new (((((w.alloc (.cells #[.int .i64 0, .int .i64 0, .string ⟨#[]⟩, .slice none 0 0] 25)).alloc (.cells #[.string ⟨#[97, 108, 108]⟩, .string ⟨#[110, 111, 110, 101]⟩, .string ⟨#[117, 110, 114, 101, 97, 100]⟩, .string ⟨#[115, 116, 97, 114, 114, 101, 100]⟩] 9)).alloc (.cells #[.int .i64 1, .int .i64 2, .int .i64 9, .int .i64 10] 3)).alloc (.cells #[.string ⟨#[102, 101, 101, 100, 58]⟩, .string ⟨#[102, 111, 108, 100, 101, 114, 58]⟩, .string ⟨#[119, 105, 116, 104, 105, 110, 58]⟩, .string ⟨#[98, 101, 102, 111, 114, 101, 58]⟩, .string ⟨#[115, 105, 110, 99, 101, 58]⟩, .string ⟨#[116, 97, 103, 58]⟩, .string ⟨#[119, 111, 114, 100, 58]⟩, .string ⟨#[98, 101, 103, 105, 110, 115, 58]⟩] 9)).alloc (.cells #[.int .i64 6, .int .i64 7, .int .i64 15, .int .i64 13, .int .i64 14, .int .i64 8, .int .i64 11, .int .i64 12] 3)) 25 #[.int .i64 15, .int .i64 nn, .string ⟨#[]⟩, .slice none 0 0]
          rw [show (((((w.alloc (.cells #[.int .i64 0, .int .i64 0, .string ⟨#[]⟩, .slice none 0 0] 25)).alloc (.cells #[.string ⟨#[97, 108, 108]⟩, .string ⟨#[110, 111, 110, 101]⟩, .string ⟨#[117, 110, 114, 101, 97, 100]⟩, .string ⟨#[115, 116, 97, 114, 114, 101, 100]⟩] 9)).alloc (.cells #[.int .i64 1, .int .i64 2, .int .i64 9, .int .i64 10] 3)).alloc (.cells #[.string ⟨#[102, 101, 101, 100, 58]⟩, .string ⟨#[102, 111, 108, 100, 101, 114, 58]⟩, .string ⟨#[119, 105, 116, 104, 105, 110, 58]⟩, .string ⟨#[98, 101, 102, 111, 114, 101, 58]⟩, .string ⟨#[115, 105, 110, 99, 101, 58]⟩, .string ⟨#[116, 97, 103, 58]⟩, .string ⟨#[119, 111, 114, 100, 58]⟩, .string ⟨#[98, 101, 103, 105, 110, 115, 58]⟩] 9)).alloc (.cells #[.int .i64 6, .int .i64 7, .int .i64 15, .int .i64 13, .int .i64 14, .int .i64 8, .int .i64 11, .int .i64 12] 3)).heap.size = w.heap.size + 1 + 1 + 1 + 1 + 1 by simp] at y6
          have Y6 := Lib.hid y6
          clear y6
          obtain ⟨k0, k1, k2, k3, k4, k5⟩ := res_facts Y6.out
          go_wp2_with fail
          (with_reducible refine (HCK.out _).mono ?_)
          rintro _ w7 ⟨rfl, hb7⟩
          have X7 := Lib.hid (X6.out.below hb7 X6.out.lt)
          have Y7 := Lib.hid (Y6.out.below hb7 Y6.out.lt)
          have B7 := Lib.hid (bel_step B6.out hb7)
          obtain ⟨z0, z1, z2, z3, z4, z5⟩ := res_facts X7.out
          obtain ⟨n0, n1, n2, n3, n4, n5⟩ := res_facts Y7.out
          clear hb7
          cases b with
          | true =>
            go_wp2_with fail
            have y := set4 X7.out (.int .i64 15) (.int .i64 nn) (.string ⟨#[]⟩) (.slice none 0 0)
            have y0 := y.cell 0
            have y1 := y.cell 1
            have y2 := y.cell 2
            have y3 := y.cell 3
            simp at y0 y1 y2 y3
            try simp only [Exit.inBlock, Exit.then]
            exact bodyPost_ret (v := .tuple #[.agg #[.int .i64 15, .int .i64 nn, .string ⟨#[]⟩, .slice none 0 0], .bool true]) (by simp [results, Tryz.results73, go_sem, y0, y1, y2, y3]) rfl (retTm_of _ HBB.out HTM.out HLF.out (bel4 B7.out (Nat.le_refl _) _ _ _ _))
          | false =>
            go_wp2_with fail
            have y := set4 X7.out (.int .i64 0) (.int .i64 0) (.string ⟨#[]⟩) (.slice none 0 0)
            have y0 := y.cell 0
            have y1 := y.cell 1
            have y2 := y.cell 2
            have y3 := y.cell 3
            simp at y0 y1 y2 y3
            try simp only [Exit.inBlock, Exit.then]
            exact bodyPost_ret (v := .tuple #[.agg #[.int .i64 0, .int .i64 0, .string ⟨#[]⟩, .slice none 0 0], .bool false]) (by simp [results, Tryz.results73, go_sem, y0, y1, y2, y3]) rfl (retTm_no26 (HTM.out.trans (chk_no26 HBB.out)) (bel4 B7.out (Nat.le_refl _) _ _ _ _))
set_option maxHeartbeats 8000000 in
theorem rterm26_bef (s t : List UInt8) (w : World) (hs : s.length ≤ 512) (d0 : (s == [97, 108, 108]) = false) (d1 : (s == [110, 111, 110, 101]) = false) (d2 : (s == [117, 110, 114, 101, 97, 100]) = false) (d3 : (s == [115, 116, 97, 114, 114, 101, 100]) = false) (m0 : stp pFee s = none) (m1 : stp pFol s = none) (m2 : stp pWit s = none) (hst : stp pBef s = some t) : Calls Tryz.prog 73 #[.string ⟨s.toArray⟩] w (RetTm (termD s) w) := by
  have HTM : Hid (termD s = (momT t).bind fun n => chkQ ⟨13, n, [], []⟩) := Lib.hid (by
    unfold termD
    rw [if_neg (by simpa [tAll] using d0), if_neg (by simpa [tNon] using d1), if_neg (by simpa [tUnr] using d2), if_neg (by simpa [tSta] using d3)]
    simp only [m0, m1, m2, hst])
  have HB0 := Lib.hid (fun W => behind26_no s [102, 101, 101, 100, 58] hs (by decide) m0 W)
  have HB1 := Lib.hid (fun W => behind26_no s [102, 111, 108, 100, 101, 114, 58] hs (by decide) m1 W)
  have HB2 := Lib.hid (fun W => behind26_no s [119, 105, 116, 104, 105, 110, 58] hs (by decide) m2 W)
  have HB3 := Lib.hid (fun W => behind26_yes s [98, 101, 102, 111, 114, 101, 58] t hs (by decide) hst W)
  have htl : t.length ≤ 512 := by rw [stp_yes26 hst, List.length_append] at hs; omega
  have ho : i64P 13 := i64P_lit (z := 13) (by omega)
  have hmi := mom_i64 t
  have HNUM := Lib.hid (fun W => rmom26_any t W htl)
  generalize momT t = mo at *
  have ht : ([] : List UInt8).length ≤ 2048 := by decide
  generalize termD s = tm at *
  clear m0 m1 m2 hst
  go_enter Tryz.func73, Tryz.ntmps73
  go_wp2_with fail
  go_loop [6] (fun i => ∃ z : Int, i = .int .i64 z ∧ 0 ≤ z ∧ z ≤ 4) (fun i => 5 - (intOf i).toNat)
  case atStart => exact ⟨0, rfl, by omega, by omega⟩
  case round =>
    obtain ⟨z, rfl, hz0, hz1⟩ := hrel
    rcases (by omega : z = 0 ∨ z = 1 ∨ z = 2 ∨ z = 3 ∨ z = 4) with rfl | rfl | rfl | rfl | rfl
    · go_wp2_with fail
      go_round
      case rel => exact ⟨1, by go_num, by omega, by omega⟩
      case measure => simp [intOf]
    · go_wp2_with fail
      go_round
      case rel => exact ⟨2, by go_num, by omega, by omega⟩
      case measure => simp [intOf]
    · go_wp2_with fail
      go_round
      case rel => exact ⟨3, by go_num, by omega, by omega⟩
      case measure => simp [intOf]
    · go_wp2_with fail
      go_round
      case rel => exact ⟨4, by go_num, by omega, by omega⟩
      case measure => simp [intOf]
    · clear d0 d1 d2 d3
      go_wp2_with fail
      go_loop [9] (fun i => ∃ z : Int, i = .int .i64 z ∧ 0 ≤ z ∧ z ≤ 3) (fun i => 9 - (intOf i).toNat)
      case atStart => exact ⟨0, rfl, by omega, by omega⟩
      case round =>
        obtain ⟨z, rfl, hz0, hz1⟩ := hrel
        rcases (by omega : z = 0 ∨ z = 1 ∨ z = 2 ∨ z = 3) with rfl | rfl | rfl | rfl
        · go_wp2_with fail
          (with_reducible refine (HB0.out _).mono ?_)
          rintro _ w2 ⟨rfl, hw2⟩
          obtain rfl := hw2.symm
          go_wp2_with fail
          go_round
          case rel => exact ⟨1, by go_num, by omega, by omega⟩
          case measure => simp [intOf]
        · go_wp2_with fail
          (with_reducible refine (HB1.out _).mono ?_)
          rintro _ w2 ⟨rfl, hw2⟩
          obtain rfl := hw2.symm
          go_wp2_with fail
          go_round
          case rel => exact ⟨2, by go_num, by omega, by omega⟩
          case measure => simp [intOf]
        · go_wp2_with fail
          (with_reducible refine (HB2.out _).mono ?_)
          rintro _ w2 ⟨rfl, hw2⟩
          obtain rfl := hw2.symm
          go_wp2_with fail
          go_round
          case rel => exact ⟨3, by go_num, by omega, by omega⟩
          case measure => simp [intOf]
        · go_wp2_with fail
          (with_reducible refine (HB3.out _).mono ?_)
          rintro _ w2 ⟨rfl, hw2⟩
          obtain rfl := hw2.symm
          go_wp2_with fail
          have B6 := Lib.hid (bel_alloc (bel_alloc (bel_alloc (bel_alloc (bel_alloc (bel_alloc (Below.refl w.heap.size w) (.cells #[.int .i64 0, .int .i64 0, .string ⟨#[]⟩, .slice none 0 0] 25)) (.cells #[.string ⟨#[97, 108, 108]⟩, .string ⟨#[110, 111, 110, 101]⟩, .string ⟨#[117, 110, 114, 101, 97, 100]⟩, .string ⟨#[115, 116, 97, 114, 114, 101, 100]⟩] 9)) (.cells #[.int .i64 1, .int .i64 2, .int .i64 9, .int .i64 10] 3)) (.cells #[.string ⟨#[102, 101, 101, 100, 58]⟩, .string ⟨#[102, 111, 108, 100, 101, 114, 58]⟩, .string ⟨#[119, 105, 116, 104, 105, 110, 58]⟩, .string ⟨#[98, 101, 102, 111, 114, 101, 58]⟩, .string ⟨#[115, 105, 110, 99, 101, 58]⟩, .string ⟨#[116, 97, 103, 58]⟩, .string ⟨#[119, 111, 114, 100, 58]⟩, .string ⟨#[98, 101, 103, 105, 110, 115, 58]⟩] 9)) (.cells #[.int .i64 6, .int .i64 7, .int .i64 15, .int .i64 13, .int .i64 14, .int .i64 8, .int .i64 11, .int .i64 12] 3)) (.cells #[.int .i64 13, .int .i64 0, .string ⟨#[]⟩, .slice none 0 0] 25))
          have X6 := Lib.hid ((((((Blk.new w 25 #[.int .i64 0, .int .i64 0, .string ⟨#[]⟩, .slice none 0 0]).alloc (.cells #[.string ⟨#[97, 108, 108]⟩, .string ⟨#[110, 111, 110, 101]⟩, .string ⟨#[117, 110, 114, 101, 97, 100]⟩, .string ⟨#[115, 116, 97, 114, 114, 101, 100]⟩] 9)).alloc (.cells #[.int .i64 1, .int .i64 2, .int .i64 9, .int .i64 10] 3)).alloc (.cells #[.string ⟨#[102, 101, 101, 100, 58]⟩, .string ⟨#[102, 111, 108, 100, 101, 114, 58]⟩, .string ⟨#[119, 105, 116, 104, 105, 110, 58]⟩, .string ⟨#[98, 101, 102, 111, 114, 101, 58]⟩, .string ⟨#[115, 105, 110, 99, 101, 58]⟩, .string ⟨#[116, 97, 103, 58]⟩, .string ⟨#[119, 111, 114, 100, 58]⟩, .string ⟨#[98, 101, 103, 105, 110, 115, 58]⟩] 9)).alloc (.cells #[.int .i64 6, .int .i64 7, .int .i64 15, .int .i64 13, .int .i64 14, .int .i64 8, .int .i64 11, .int .i64 12] 3)).alloc (.cells #[.int .i64 13, .int .i64 0, .string ⟨#[]⟩, .slice none 0 0] 25))
          have y6 := Blk.new (((((w.alloc (.cells #[.int .i64 0, .int .i64 0, .string ⟨#[]⟩, .slice none 0 0] 25)).alloc (.cells #[.string ⟨#[97, 108, 108]⟩, .string ⟨#[110, 111, 110, 101]⟩, .string ⟨#[117, 110, 114, 101, 97, 100]⟩, .string ⟨#[115, 116, 97, 114, 114, 101, 100]⟩] 9)).alloc (.cells #[.int .i64 1, .int .i64 2, .int .i64 9, .int .i64 10] 3)).alloc (.cells #[.string ⟨#[102, 101, 101, 100, 58]⟩, .string ⟨#[102, 111, 108, 100, 101, 114, 58]⟩, .string ⟨#[119, 105, 116, 104, 105, 110, 58]⟩, .string ⟨#[98, 101, 102, 111, 114, 101, 58]⟩, .string ⟨#[115, 105, 110, 99, 101, 58]⟩, .string ⟨#[116, 97, 103, 58]⟩, .string ⟨#[119, 111, 114, 100, 58]⟩, .string ⟨#[98, 101, 103, 105, 110, 115, 58]⟩] 9)).alloc (.cells #[.int .i64 6, .int .i64 7, .int .i64 15, .int .i64 13, .int .i64 14, .int .i64 8, .int .i64 11, .int .i64 12] 3)) 25 #[.int .i64 13, .int .i64 0, .string ⟨#[]⟩, .slice none 0 0]
          rw [show (((((w.alloc (.cells #[.int .i64 0, .int .i64 0, .string ⟨#[]⟩, .slice none 0 0] 25)).alloc (.cells #[.string ⟨#[97, 108, 108]⟩, .string ⟨#[110, 111, 110, 101]⟩, .string ⟨#[117, 110, 114, 101, 97, 100]⟩, .string ⟨#[115, 116, 97, 114, 114, 101, 100]⟩] 9)).alloc (.cells #[.int .i64 1, .int .i64 2, .int .i64 9, .int .i64 10] 3)).alloc (.cells #[.string ⟨#[102, 101, 101, 100, 58]⟩, .string ⟨#[102, 111, 108, 100, 101, 114, 58]⟩, .string ⟨#[119, 105, 116, 104, 105, 110, 58]⟩, .string ⟨#[98, 101, 102, 111, 114, 101, 58]⟩, .string ⟨#[115, 105, 110, 99, 101, 58]⟩, .string ⟨#[116, 97, 103, 58]⟩, .string ⟨#[119, 111, 114, 100, 58]⟩, .string ⟨#[98, 101, 103, 105, 110, 115, 58]⟩] 9)).alloc (.cells #[.int .i64 6, .int .i64 7, .int .i64 15, .int .i64 13, .int .i64 14, .int .i64 8, .int .i64 11, .int .i64 12] 3)).heap.size = w.heap.size + 1 + 1 + 1 + 1 + 1 by simp] at y6
          have Y6 := Lib.hid y6
          clear y6
          (with_reducible refine (HNUM.out _).mono ?_)
          rintro _ w3 ⟨rfl, hb3⟩
          have x3 := X6.out.below hb3 X6.out.lt
          have y3' := Y6.out.below hb3 Y6.out.lt
          obtain ⟨q0, q1, q2, q3, q4, q5⟩ := res_facts y3'
          cases mo with
          | none =>
            have X8 := Lib.hid (x3.far (p := ⟨w.heap.size + 1 + 1 + 1 + 1 + 1, 1, none⟩) (by show w.heap.size ≠ w.heap.size + 1 + 1 + 1 + 1 + 1; omega) (.int .i64 0))
            have Y8 : Hid (Blk (w3.setCell ⟨w.heap.size + 1 + 1 + 1 + 1 + 1, 1, none⟩ (.int .i64 0)) (w.heap.size + 1 + 1 + 1 + 1 + 1) 25 #[.int .i64 13, .int .i64 0, .string ⟨#[]⟩, .slice none 0 0]) := Lib.hid (by simpa using y3'.set_ 1 (.int .i64 0))
            have B8 := Lib.hid ((bel_step B6.out hb3).setCell (p := ⟨w.heap.size + 1 + 1 + 1 + 1 + 1, 1, none⟩) (show w.heap.size ≤ w.heap.size + 1 + 1 + 1 + 1 + 1 by omega) (.int .i64 0))
            clear hb3 x3 y3'
            simp only [Option.getD_none, Option.isSome_none]
            obtain ⟨z0, z1, z2, z3, z4, z5⟩ := res_facts X8.out
            go_wp2_with fail
            have y := set4 X8.out (.int .i64 0) (.int .i64 0) (.string ⟨#[]⟩) (.slice none 0 0)
            have y0 := y.cell 0
            have y1 := y.cell 1
            have y2 := y.cell 2
            have y3 := y.cell 3
            simp at y0 y1 y2 y3
            try simp only [Exit.inBlock, Exit.then]
            exact bodyPost_ret (v := .tuple #[.agg #[.int .i64 0, .int .i64 0, .string ⟨#[]⟩, .slice none 0 0], .bool false]) (by simp [results, Tryz.results73, go_sem, y0, y1, y2, y3]) rfl (retTm_no26 HTM.out (bel4 B8.out (Nat.le_refl _) _ _ _ _))
          | some nn =>
            have hn : i64P nn := hmi
            have HCK := Lib.hid (fun W => rcheck_leaf 13 nn [] ho hn ht W)
            have HLF : Hid (∀ {W : World}, QAt W (fun b => w.heap.size ≤ b) #[.int .i64 13, .int .i64 nn, .string ⟨([] : List UInt8).toArray⟩, .slice none 0 0] ⟨13, nn, [], []⟩) := Lib.hid (QAt.leaf ho hn (by omega))
            generalize hbb : okQ ⟨13, nn, [], []⟩ = b at HCK
            have HBB := Lib.hid hbb
            clear hbb hmi
            have HTM : Hid (tm = chkQ ⟨13, nn, [], []⟩) := Lib.hid HTM.out
            have X8 := Lib.hid (x3.far (p := ⟨w.heap.size + 1 + 1 + 1 + 1 + 1, 1, none⟩) (by show w.heap.size ≠ w.heap.size + 1 + 1 + 1 + 1 + 1; omega) (.int .i64 nn))
            have Y8 : Hid (Blk (w3.setCell ⟨w.heap.size + 1 + 1 + 1 + 1 + 1, 1, none⟩ (.int .i64 nn)) (w.heap.size + 1 + 1 + 1 + 1 + 1) 25 #[.int .i64 13, .int .i64 nn, .string ⟨#[]⟩, .slice none 0 0]) := Lib.hid (by simpa using y3'.set_ 1 (.int .i64 nn))
            have B8 := Lib.hid ((bel_step B6.out hb3).setCell (p := ⟨w.heap.size + 1 + 1 + 1 + 1 + 1, 1, none⟩) (show w.heap.size ≤ w.heap.size + 1 + 1 + 1 + 1 + 1 by omega) (.int .i64 nn))
            clear hb3 x3 y3'
            simp only [Option.getD_some, Option.isSome_some]
            obtain ⟨k0, k1, k2, k3, k4, k5⟩ := res_facts Y8.out
            go_wp2_with fail
            (with_reducible refine (HCK.out _).mono ?_)
            rintro _ w7 ⟨rfl, hb7⟩
            have X7 := Lib.hid (X8.out.below hb7 X8.out.lt)
            have Y7 := Lib.hid (Y8.out.below hb7 Y8.out.lt)
            have B7 := Lib.hid (bel_step B8.out hb7)
            obtain ⟨z0, z1, z2, z3, z4, z5⟩ := res_facts X7.out
            obtain ⟨n0, n1, n2, n3, n4, n5⟩ := res_facts Y7.out
            clear hb7
            cases b with
            | true =>
              go_wp2_with fail
              have y := set4 X7.out (.int .i64 13) (.int .i64 nn) (.string ⟨#[]⟩) (.slice none 0 0)
              have y0 := y.cell 0
              have y1 := y.cell 1
              have y2 := y.cell 2
              have y3 := y.cell 3
              simp at y0 y1 y2 y3
              try simp only [Exit.inBlock, Exit.then]
              exact bodyPost_ret (v := .tuple #[.agg #[.int .i64 13, .int .i64 nn, .string ⟨#[]⟩, .slice none 0 0], .bool true]) (by simp [results, Tryz.results73, go_sem, y0, y1, y2, y3]) rfl (retTm_of _ HBB.out HTM.out HLF.out (bel4 B7.out (Nat.le_refl _) _ _ _ _))
            | false =>
              go_wp2_with fail
              have y := set4 X7.out (.int .i64 0) (.int .i64 0) (.string ⟨#[]⟩) (.slice none 0 0)
              have y0 := y.cell 0
              have y1 := y.cell 1
              have y2 := y.cell 2
              have y3 := y.cell 3
              simp at y0 y1 y2 y3
              try simp only [Exit.inBlock, Exit.then]
              exact bodyPost_ret (v := .tuple #[.agg #[.int .i64 0, .int .i64 0, .string ⟨#[]⟩, .slice none 0 0], .bool false]) (by simp [results, Tryz.results73, go_sem, y0, y1, y2, y3]) rfl (retTm_no26 (HTM.out.trans (chk_no26 HBB.out)) (bel4 B7.out (Nat.le_refl _) _ _ _ _))
set_option maxHeartbeats 8000000 in
theorem rterm26_sin (s t : List UInt8) (w : World) (hs : s.length ≤ 512) (d0 : (s == [97, 108, 108]) = false) (d1 : (s == [110, 111, 110, 101]) = false) (d2 : (s == [117, 110, 114, 101, 97, 100]) = false) (d3 : (s == [115, 116, 97, 114, 114, 101, 100]) = false) (m0 : stp pFee s = none) (m1 : stp pFol s = none) (m2 : stp pWit s = none) (m3 : stp pBef s = none) (hst : stp pSin s = some t) : Calls Tryz.prog 73 #[.string ⟨s.toArray⟩] w (RetTm (termD s) w) := by
  have HTM : Hid (termD s = (momT t).bind fun n => chkQ ⟨14, n, [], []⟩) := Lib.hid (by
    unfold termD
    rw [if_neg (by simpa [tAll] using d0), if_neg (by simpa [tNon] using d1), if_neg (by simpa [tUnr] using d2), if_neg (by simpa [tSta] using d3)]
    simp only [m0, m1, m2, m3, hst])
  have HB0 := Lib.hid (fun W => behind26_no s [102, 101, 101, 100, 58] hs (by decide) m0 W)
  have HB1 := Lib.hid (fun W => behind26_no s [102, 111, 108, 100, 101, 114, 58] hs (by decide) m1 W)
  have HB2 := Lib.hid (fun W => behind26_no s [119, 105, 116, 104, 105, 110, 58] hs (by decide) m2 W)
  have HB3 := Lib.hid (fun W => behind26_no s [98, 101, 102, 111, 114, 101, 58] hs (by decide) m3 W)
  have HB4 := Lib.hid (fun W => behind26_yes s [115, 105, 110, 99, 101, 58] t hs (by decide) hst W)
  have htl : t.length ≤ 512 := by rw [stp_yes26 hst, List.length_append] at hs; omega
  have ho : i64P 14 := i64P_lit (z := 14) (by omega)
  have hmi := mom_i64 t
  have HNUM := Lib.hid (fun W => rmom26_any t W htl)
  generalize momT t = mo at *
  have ht : ([] : List UInt8).length ≤ 2048 := by decide
  generalize termD s = tm at *
  clear m0 m1 m2 m3 hst
  go_enter Tryz.func73, Tryz.ntmps73
  go_wp2_with fail
  go_loop [6] (fun i => ∃ z : Int, i = .int .i64 z ∧ 0 ≤ z ∧ z ≤ 4) (fun i => 5 - (intOf i).toNat)
  case atStart => exact ⟨0, rfl, by omega, by omega⟩
  case round =>
    obtain ⟨z, rfl, hz0, hz1⟩ := hrel
    rcases (by omega : z = 0 ∨ z = 1 ∨ z = 2 ∨ z = 3 ∨ z = 4) with rfl | rfl | rfl | rfl | rfl
    · go_wp2_with fail
      go_round
      case rel => exact ⟨1, by go_num, by omega, by omega⟩
      case measure => simp [intOf]
    · go_wp2_with fail
      go_round
      case rel => exact ⟨2, by go_num, by omega, by omega⟩
      case measure => simp [intOf]
    · go_wp2_with fail
      go_round
      case rel => exact ⟨3, by go_num, by omega, by omega⟩
      case measure => simp [intOf]
    · go_wp2_with fail
      go_round
      case rel => exact ⟨4, by go_num, by omega, by omega⟩
      case measure => simp [intOf]
    · clear d0 d1 d2 d3
      go_wp2_with fail
      go_loop [9] (fun i => ∃ z : Int, i = .int .i64 z ∧ 0 ≤ z ∧ z ≤ 4) (fun i => 9 - (intOf i).toNat)
      case atStart => exact ⟨0, rfl, by omega, by omega⟩
      case round =>
        obtain ⟨z, rfl, hz0, hz1⟩ := hrel
        rcases (by omega : z = 0 ∨ z = 1 ∨ z = 2 ∨ z = 3 ∨ z = 4) with rfl | rfl | rfl | rfl | rfl
        · go_wp2_with fail
          (with_reducible refine (HB0.out _).mono ?_)
          rintro _ w2 ⟨rfl, hw2⟩
          obtain rfl := hw2.symm
          go_wp2_with fail
          go_round
          case rel => exact ⟨1, by go_num, by omega, by omega⟩
          case measure => simp [intOf]
        · go_wp2_with fail
          (with_reducible refine (HB1.out _).mono ?_)
          rintro _ w2 ⟨rfl, hw2⟩
          obtain rfl := hw2.symm
          go_wp2_with fail
          go_round
          case rel => exact ⟨2, by go_num, by omega, by omega⟩
          case measure => simp [intOf]
        · go_wp2_with fail
          (with_reducible refine (HB2.out _).mono ?_)
          rintro _ w2 ⟨rfl, hw2⟩
          obtain rfl := hw2.symm
          go_wp2_with fail
          go_round
          case rel => exact ⟨3, by go_num, by omega, by omega⟩
          case measure => simp [intOf]
        · go_wp2_with fail
          (with_reducible refine (HB3.out _).mono ?_)
          rintro _ w2 ⟨rfl, hw2⟩
          obtain rfl := hw2.symm
          go_wp2_with fail
          go_round
          case rel => exact ⟨4, by go_num, by omega, by omega⟩
          case measure => simp [intOf]
        · go_wp2_with fail
          (with_reducible refine (HB4.out _).mono ?_)
          rintro _ w2 ⟨rfl, hw2⟩
          obtain rfl := hw2.symm
          go_wp2_with fail
          have B6 := Lib.hid (bel_alloc (bel_alloc (bel_alloc (bel_alloc (bel_alloc (bel_alloc (Below.refl w.heap.size w) (.cells #[.int .i64 0, .int .i64 0, .string ⟨#[]⟩, .slice none 0 0] 25)) (.cells #[.string ⟨#[97, 108, 108]⟩, .string ⟨#[110, 111, 110, 101]⟩, .string ⟨#[117, 110, 114, 101, 97, 100]⟩, .string ⟨#[115, 116, 97, 114, 114, 101, 100]⟩] 9)) (.cells #[.int .i64 1, .int .i64 2, .int .i64 9, .int .i64 10] 3)) (.cells #[.string ⟨#[102, 101, 101, 100, 58]⟩, .string ⟨#[102, 111, 108, 100, 101, 114, 58]⟩, .string ⟨#[119, 105, 116, 104, 105, 110, 58]⟩, .string ⟨#[98, 101, 102, 111, 114, 101, 58]⟩, .string ⟨#[115, 105, 110, 99, 101, 58]⟩, .string ⟨#[116, 97, 103, 58]⟩, .string ⟨#[119, 111, 114, 100, 58]⟩, .string ⟨#[98, 101, 103, 105, 110, 115, 58]⟩] 9)) (.cells #[.int .i64 6, .int .i64 7, .int .i64 15, .int .i64 13, .int .i64 14, .int .i64 8, .int .i64 11, .int .i64 12] 3)) (.cells #[.int .i64 14, .int .i64 0, .string ⟨#[]⟩, .slice none 0 0] 25))
          have X6 := Lib.hid ((((((Blk.new w 25 #[.int .i64 0, .int .i64 0, .string ⟨#[]⟩, .slice none 0 0]).alloc (.cells #[.string ⟨#[97, 108, 108]⟩, .string ⟨#[110, 111, 110, 101]⟩, .string ⟨#[117, 110, 114, 101, 97, 100]⟩, .string ⟨#[115, 116, 97, 114, 114, 101, 100]⟩] 9)).alloc (.cells #[.int .i64 1, .int .i64 2, .int .i64 9, .int .i64 10] 3)).alloc (.cells #[.string ⟨#[102, 101, 101, 100, 58]⟩, .string ⟨#[102, 111, 108, 100, 101, 114, 58]⟩, .string ⟨#[119, 105, 116, 104, 105, 110, 58]⟩, .string ⟨#[98, 101, 102, 111, 114, 101, 58]⟩, .string ⟨#[115, 105, 110, 99, 101, 58]⟩, .string ⟨#[116, 97, 103, 58]⟩, .string ⟨#[119, 111, 114, 100, 58]⟩, .string ⟨#[98, 101, 103, 105, 110, 115, 58]⟩] 9)).alloc (.cells #[.int .i64 6, .int .i64 7, .int .i64 15, .int .i64 13, .int .i64 14, .int .i64 8, .int .i64 11, .int .i64 12] 3)).alloc (.cells #[.int .i64 14, .int .i64 0, .string ⟨#[]⟩, .slice none 0 0] 25))
          have y6 := Blk.new (((((w.alloc (.cells #[.int .i64 0, .int .i64 0, .string ⟨#[]⟩, .slice none 0 0] 25)).alloc (.cells #[.string ⟨#[97, 108, 108]⟩, .string ⟨#[110, 111, 110, 101]⟩, .string ⟨#[117, 110, 114, 101, 97, 100]⟩, .string ⟨#[115, 116, 97, 114, 114, 101, 100]⟩] 9)).alloc (.cells #[.int .i64 1, .int .i64 2, .int .i64 9, .int .i64 10] 3)).alloc (.cells #[.string ⟨#[102, 101, 101, 100, 58]⟩, .string ⟨#[102, 111, 108, 100, 101, 114, 58]⟩, .string ⟨#[119, 105, 116, 104, 105, 110, 58]⟩, .string ⟨#[98, 101, 102, 111, 114, 101, 58]⟩, .string ⟨#[115, 105, 110, 99, 101, 58]⟩, .string ⟨#[116, 97, 103, 58]⟩, .string ⟨#[119, 111, 114, 100, 58]⟩, .string ⟨#[98, 101, 103, 105, 110, 115, 58]⟩] 9)).alloc (.cells #[.int .i64 6, .int .i64 7, .int .i64 15, .int .i64 13, .int .i64 14, .int .i64 8, .int .i64 11, .int .i64 12] 3)) 25 #[.int .i64 14, .int .i64 0, .string ⟨#[]⟩, .slice none 0 0]
          rw [show (((((w.alloc (.cells #[.int .i64 0, .int .i64 0, .string ⟨#[]⟩, .slice none 0 0] 25)).alloc (.cells #[.string ⟨#[97, 108, 108]⟩, .string ⟨#[110, 111, 110, 101]⟩, .string ⟨#[117, 110, 114, 101, 97, 100]⟩, .string ⟨#[115, 116, 97, 114, 114, 101, 100]⟩] 9)).alloc (.cells #[.int .i64 1, .int .i64 2, .int .i64 9, .int .i64 10] 3)).alloc (.cells #[.string ⟨#[102, 101, 101, 100, 58]⟩, .string ⟨#[102, 111, 108, 100, 101, 114, 58]⟩, .string ⟨#[119, 105, 116, 104, 105, 110, 58]⟩, .string ⟨#[98, 101, 102, 111, 114, 101, 58]⟩, .string ⟨#[115, 105, 110, 99, 101, 58]⟩, .string ⟨#[116, 97, 103, 58]⟩, .string ⟨#[119, 111, 114, 100, 58]⟩, .string ⟨#[98, 101, 103, 105, 110, 115, 58]⟩] 9)).alloc (.cells #[.int .i64 6, .int .i64 7, .int .i64 15, .int .i64 13, .int .i64 14, .int .i64 8, .int .i64 11, .int .i64 12] 3)).heap.size = w.heap.size + 1 + 1 + 1 + 1 + 1 by simp] at y6
          have Y6 := Lib.hid y6
          clear y6
          (with_reducible refine (HNUM.out _).mono ?_)
          rintro _ w3 ⟨rfl, hb3⟩
          have x3 := X6.out.below hb3 X6.out.lt
          have y3' := Y6.out.below hb3 Y6.out.lt
          obtain ⟨q0, q1, q2, q3, q4, q5⟩ := res_facts y3'
          cases mo with
          | none =>
            have X8 := Lib.hid (x3.far (p := ⟨w.heap.size + 1 + 1 + 1 + 1 + 1, 1, none⟩) (by show w.heap.size ≠ w.heap.size + 1 + 1 + 1 + 1 + 1; omega) (.int .i64 0))
            have Y8 : Hid (Blk (w3.setCell ⟨w.heap.size + 1 + 1 + 1 + 1 + 1, 1, none⟩ (.int .i64 0)) (w.heap.size + 1 + 1 + 1 + 1 + 1) 25 #[.int .i64 14, .int .i64 0, .string ⟨#[]⟩, .slice none 0 0]) := Lib.hid (by simpa using y3'.set_ 1 (.int .i64 0))
            have B8 := Lib.hid ((bel_step B6.out hb3).setCell (p := ⟨w.heap.size + 1 + 1 + 1 + 1 + 1, 1, none⟩) (show w.heap.size ≤ w.heap.size + 1 + 1 + 1 + 1 + 1 by omega) (.int .i64 0))
            clear hb3 x3 y3'
            simp only [Option.getD_none, Option.isSome_none]
            obtain ⟨z0, z1, z2, z3, z4, z5⟩ := res_facts X8.out
            go_wp2_with fail
            have y := set4 X8.out (.int .i64 0) (.int .i64 0) (.string ⟨#[]⟩) (.slice none 0 0)
            have y0 := y.cell 0
            have y1 := y.cell 1
            have y2 := y.cell 2
            have y3 := y.cell 3
            simp at y0 y1 y2 y3
            try simp only [Exit.inBlock, Exit.then]
            exact bodyPost_ret (v := .tuple #[.agg #[.int .i64 0, .int .i64 0, .string ⟨#[]⟩, .slice none 0 0], .bool false]) (by simp [results, Tryz.results73, go_sem, y0, y1, y2, y3]) rfl (retTm_no26 HTM.out (bel4 B8.out (Nat.le_refl _) _ _ _ _))
          | some nn =>
            have hn : i64P nn := hmi
            have HCK := Lib.hid (fun W => rcheck_leaf 14 nn [] ho hn ht W)
            have HLF : Hid (∀ {W : World}, QAt W (fun b => w.heap.size ≤ b) #[.int .i64 14, .int .i64 nn, .string ⟨([] : List UInt8).toArray⟩, .slice none 0 0] ⟨14, nn, [], []⟩) := Lib.hid (QAt.leaf ho hn (by omega))
            generalize hbb : okQ ⟨14, nn, [], []⟩ = b at HCK
            have HBB := Lib.hid hbb
            clear hbb hmi
            have HTM : Hid (tm = chkQ ⟨14, nn, [], []⟩) := Lib.hid HTM.out
            have X8 := Lib.hid (x3.far (p := ⟨w.heap.size + 1 + 1 + 1 + 1 + 1, 1, none⟩) (by show w.heap.size ≠ w.heap.size + 1 + 1 + 1 + 1 + 1; omega) (.int .i64 nn))
            have Y8 : Hid (Blk (w3.setCell ⟨w.heap.size + 1 + 1 + 1 + 1 + 1, 1, none⟩ (.int .i64 nn)) (w.heap.size + 1 + 1 + 1 + 1 + 1) 25 #[.int .i64 14, .int .i64 nn, .string ⟨#[]⟩, .slice none 0 0]) := Lib.hid (by simpa using y3'.set_ 1 (.int .i64 nn))
            have B8 := Lib.hid ((bel_step B6.out hb3).setCell (p := ⟨w.heap.size + 1 + 1 + 1 + 1 + 1, 1, none⟩) (show w.heap.size ≤ w.heap.size + 1 + 1 + 1 + 1 + 1 by omega) (.int .i64 nn))
            clear hb3 x3 y3'
            simp only [Option.getD_some, Option.isSome_some]
            obtain ⟨k0, k1, k2, k3, k4, k5⟩ := res_facts Y8.out
            go_wp2_with fail
            (with_reducible refine (HCK.out _).mono ?_)
            rintro _ w7 ⟨rfl, hb7⟩
            have X7 := Lib.hid (X8.out.below hb7 X8.out.lt)
            have Y7 := Lib.hid (Y8.out.below hb7 Y8.out.lt)
            have B7 := Lib.hid (bel_step B8.out hb7)
            obtain ⟨z0, z1, z2, z3, z4, z5⟩ := res_facts X7.out
            obtain ⟨n0, n1, n2, n3, n4, n5⟩ := res_facts Y7.out
            clear hb7
            cases b with
            | true =>
              go_wp2_with fail
              have y := set4 X7.out (.int .i64 14) (.int .i64 nn) (.string ⟨#[]⟩) (.slice none 0 0)
              have y0 := y.cell 0
              have y1 := y.cell 1
              have y2 := y.cell 2
              have y3 := y.cell 3
              simp at y0 y1 y2 y3
              try simp only [Exit.inBlock, Exit.then]
              exact bodyPost_ret (v := .tuple #[.agg #[.int .i64 14, .int .i64 nn, .string ⟨#[]⟩, .slice none 0 0], .bool true]) (by simp [results, Tryz.results73, go_sem, y0, y1, y2, y3]) rfl (retTm_of _ HBB.out HTM.out HLF.out (bel4 B7.out (Nat.le_refl _) _ _ _ _))
            | false =>
              go_wp2_with fail
              have y := set4 X7.out (.int .i64 0) (.int .i64 0) (.string ⟨#[]⟩) (.slice none 0 0)
              have y0 := y.cell 0
              have y1 := y.cell 1
              have y2 := y.cell 2
              have y3 := y.cell 3
              simp at y0 y1 y2 y3
              try simp only [Exit.inBlock, Exit.then]
              exact bodyPost_ret (v := .tuple #[.agg #[.int .i64 0, .int .i64 0, .string ⟨#[]⟩, .slice none 0 0], .bool false]) (by simp [results, Tryz.results73, go_sem, y0, y1, y2, y3]) rfl (retTm_no26 (HTM.out.trans (chk_no26 HBB.out)) (bel4 B7.out (Nat.le_refl _) _ _ _ _))
end Go.Proofs.YtjjlmkleidbmhaaGreatDoor
end
