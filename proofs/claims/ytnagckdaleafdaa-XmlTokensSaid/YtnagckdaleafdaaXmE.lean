/-
  The reader's run, at each test.
-/
import Derived.Test.YtnagckdaleafdaaXmD
namespace Go.Proofs.Ytnagckdaleafdaa
open Go.RowKit Go.Nst
set_option maxRecDepth 100000
set_option linter.unusedVariables false
set_option linter.unusedSimpArgs false

set_option maxHeartbeats 4000000 in
theorem run_go (g : Nat) (l : List UInt8) (b : Bool) (w : World) (hB : XrB w g l b) (hl : l.length ≤ 1000000) :
    Calls Try.prog 38 #[.pointer (some ⟨g, 0, none⟩), .func (.func 50) #[] #[]] w (XRun goB w g l b) := by
  have hg := Blk.lt hB
  have c0 := Blk.cell hB 0
  simp at c0
  have hfz := Blk.frozen hB
  have HB := Lib.hid hB
  clear hB
  obtain ⟨s0, hs0⟩ : ∃ s0, ByteArray.mk l.toArray = s0 := ⟨_, rfl⟩
  have hbl : bl s0 = l := by rw [← hs0, bl_of]
  have hss : s0.size = l.length := by rw [← hs0, size_of]
  have hs1 : ∀ k, s0.extract 0 k = ⟨(l.take k).toArray⟩ := fun k => by rw [← hs0, xstr_take]
  have hs2 : ∀ k, s0.extract k l.length = ⟨(l.drop k).toArray⟩ := fun k => by rw [← hs0, xstr_drop]
  have HS := Lib.hid (And.intro hs1 hs2)
  clear hs1 hs2
  rw [hs0] at c0
  go_enter Try.func38, Try.ntmps38
  go_wp2_with fail
  go_loopw [5] (fun v wr => ∃ (pos : Nat), v = .int .i64 (l.length : Int) ∧ pos ≤ s0.size ∧ Hid (((bl s0).take pos).all goB = true) ∧ wr.heap[w.heap.size]? = some (.stringIter s0 pos) ∧ Below w.heap.size w wr) (fun _ wr => s0.size - wr.iterPos w.heap.size)
  case atStart =>
    refine ⟨0, rfl, by omega, Lib.hid rfl, ?_, bel_alloc (Below.refl _ _) _⟩
    have := World.iter_heap w s0 0
    simpa using this
  case round =>
    obtain ⟨pos, rfl, hps, HA, hit, hbw⟩ := hrel
    have hsz : w.heap.size < wr.heap.size := (Array.getElem?_eq_some_iff.1 hit).1
    by_cases hp : pos < s0.size
    · have hnx : ∀ ty, (Instr.next (.pointer (some ⟨w.heap.size, 0, none⟩)) true ty).run Try.prog wr = _ := fun ty => Lib.run_next_any_at wr w.heap.size s0 pos ty hit hp
      rw [decode_bl s0 pos hp] at hnx
      have hu := bl_get s0 pos hp
      have hut : (bl s0).drop pos = s0[pos] :: (bl s0).drop (pos + 1) := by rw [List.drop_eq_getElem_cons (show pos < (bl s0).length by rw [bl_len]; omega), (List.getElem?_eq_some_iff.1 hu).2]
      have hw1 := firstL_width ((bl s0).drop pos) (by rw [hut]; simp)
      have hr1 := (firstL_rune ((bl s0).drop pos)).1
      generalize s0[pos] = u at *
      have hT := runT_go u ((bl s0).drop (pos + 1))
      rw [← hut] at hT
      have hle : pos + (firstL ((bl s0).drop pos)).2 ≤ s0.size := by have := hw1.2.2; rw [List.length_drop, bl_len] at this; omega
      have hT1 := hT.1
      have HT2 := Lib.hid hT.2
      have HU := Lib.hid hu
      clear hT hut hu
      generalize firstL ((bl s0).drop pos) = f at *
      have hit2 := Lib.iterAt_heap wr w.heap.size s0 pos (pos + f.2) hit
      have hbw2 := Lib.below_iterAt hbw (k := w.heap.size) (by omega) s0 (pos + f.2)
      have hsz2 : w.heap.size < (wr.iterAt w.heap.size s0 (pos + f.2)).heap.size := (Array.getElem?_eq_some_iff.1 hit2).1
      have HC := (goes8_any (f.1 : Int) (wr.iterAt w.heap.size s0 (pos + f.2))).mono (fun e w' ⟨h1, h2⟩ => (⟨h1, by rw [← h2]; exact Below.refl _ _⟩ : _ ∧ Below (wr.iterAt w.heap.size s0 (pos + f.2)).heap.size (wr.iterAt w.heap.size s0 (pos + f.2)) w'))
      try simp only at hT1
      rw [hT1] at HC
      have HC := Lib.hid HC
      clear hT1
      cases hpu : goB u with
      | true =>
        have HN := Lib.hid (take_more HA.out (HT2.out hpu))
        rw [hpu] at HC
        clear hpu
        go_wp2_with fail
        (with_reducible refine (HC.out).mono ?_)
        rintro e w2 ⟨rfl, hb2⟩
        have hit3 : w2.heap[w.heap.size]? = some (.stringIter s0 (pos + f.2)) := (hb2.block _ hsz2).trans hit2
        go_wp2_with fail
        go_roundw
        case rel => exact ⟨pos + f.2, rfl, hle, HN, hit3, bel_step hbw2 hb2⟩
        case measure =>
          simp only [World.iterPos, hit3, hit]
          omega
      | false =>
        have HN : Hid (l.takeWhile goB = l.take pos ∧ l.dropWhile goB = l.drop pos) := Lib.hid (by
          have := HA.out
          have h2 := HU.out
          rw [hbl] at this h2
          exact take_stop this h2 hpu)
        rw [hpu] at HC
        clear hpu
        go_wp2_with fail
        (with_reducible refine (HC.out).mono ?_)
        rintro e w2 ⟨rfl, hb2⟩
        have hb3 := bel_step hbw2 hb2
        have e0 := Blk.cell (HB.out.below hb3 hg) 0
        have hfz3 := Blk.frozen (HB.out.below hb3 hg)
        simp at e0
        rw [hs0] at e0
        go_wp2_with fail
        go_ret
        exact xrun_fin HB.out hb3 (HS.out.1 _) (HS.out.2 _) HN.out
    · have hnx : ∀ ty, (Instr.next (.pointer (some ⟨w.heap.size, 0, none⟩)) true ty).run Try.prog wr = _ := fun ty => Lib.run_next_end_at wr w.heap.size s0 pos ty hit hp
      have HN : Hid (l.takeWhile goB = l.take l.length ∧ l.dropWhile goB = l.drop l.length) := Lib.hid (by
        have := HA.out
        rw [hbl] at this
        have := take_full this (by omega)
        rw [this.1, this.2, List.take_length, List.drop_length]
        exact ⟨rfl, rfl⟩)
      have e0 := Blk.cell (HB.out.below hbw hg) 0
      have hfz3 := Blk.frozen (HB.out.below hbw hg)
      simp at e0
      rw [hs0] at e0
      go_wp2_with fail
      go_ret
      exact xrun_fin HB.out hbw (HS.out.1 _) (by rw [List.drop_length]; rfl) HN.out
set_option maxHeartbeats 4000000 in
theorem run_blk (g : Nat) (l : List UInt8) (b : Bool) (w : World) (hB : XrB w g l b) (hl : l.length ≤ 1000000) :
    Calls Try.prog 38 #[.pointer (some ⟨g, 0, none⟩), .func (.func 73) #[] #[]] w (XRun blkB w g l b) := by
  have hg := Blk.lt hB
  have c0 := Blk.cell hB 0
  simp at c0
  have hfz := Blk.frozen hB
  have HB := Lib.hid hB
  clear hB
  obtain ⟨s0, hs0⟩ : ∃ s0, ByteArray.mk l.toArray = s0 := ⟨_, rfl⟩
  have hbl : bl s0 = l := by rw [← hs0, bl_of]
  have hss : s0.size = l.length := by rw [← hs0, size_of]
  have hs1 : ∀ k, s0.extract 0 k = ⟨(l.take k).toArray⟩ := fun k => by rw [← hs0, xstr_take]
  have hs2 : ∀ k, s0.extract k l.length = ⟨(l.drop k).toArray⟩ := fun k => by rw [← hs0, xstr_drop]
  have HS := Lib.hid (And.intro hs1 hs2)
  clear hs1 hs2
  rw [hs0] at c0
  go_enter Try.func38, Try.ntmps38
  go_wp2_with fail
  go_loopw [5] (fun v wr => ∃ (pos : Nat), v = .int .i64 (l.length : Int) ∧ pos ≤ s0.size ∧ Hid (((bl s0).take pos).all blkB = true) ∧ wr.heap[w.heap.size]? = some (.stringIter s0 pos) ∧ Below w.heap.size w wr) (fun _ wr => s0.size - wr.iterPos w.heap.size)
  case atStart =>
    refine ⟨0, rfl, by omega, Lib.hid rfl, ?_, bel_alloc (Below.refl _ _) _⟩
    have := World.iter_heap w s0 0
    simpa using this
  case round =>
    obtain ⟨pos, rfl, hps, HA, hit, hbw⟩ := hrel
    have hsz : w.heap.size < wr.heap.size := (Array.getElem?_eq_some_iff.1 hit).1
    by_cases hp : pos < s0.size
    · have hnx : ∀ ty, (Instr.next (.pointer (some ⟨w.heap.size, 0, none⟩)) true ty).run Try.prog wr = _ := fun ty => Lib.run_next_any_at wr w.heap.size s0 pos ty hit hp
      rw [decode_bl s0 pos hp] at hnx
      have hu := bl_get s0 pos hp
      have hut : (bl s0).drop pos = s0[pos] :: (bl s0).drop (pos + 1) := by rw [List.drop_eq_getElem_cons (show pos < (bl s0).length by rw [bl_len]; omega), (List.getElem?_eq_some_iff.1 hu).2]
      have hw1 := firstL_width ((bl s0).drop pos) (by rw [hut]; simp)
      have hr1 := (firstL_rune ((bl s0).drop pos)).1
      generalize s0[pos] = u at *
      have hT := runT_blk u ((bl s0).drop (pos + 1))
      rw [← hut] at hT
      have hle : pos + (firstL ((bl s0).drop pos)).2 ≤ s0.size := by have := hw1.2.2; rw [List.length_drop, bl_len] at this; omega
      have hT1 := hT.1
      have HT2 := Lib.hid hT.2
      have HU := Lib.hid hu
      clear hT hut hu
      generalize firstL ((bl s0).drop pos) = f at *
      have hit2 := Lib.iterAt_heap wr w.heap.size s0 pos (pos + f.2) hit
      have hbw2 := Lib.below_iterAt hbw (k := w.heap.size) (by omega) s0 (pos + f.2)
      have hsz2 : w.heap.size < (wr.iterAt w.heap.size s0 (pos + f.2)).heap.size := (Array.getElem?_eq_some_iff.1 hit2).1
      have HC := blank1_any (f.1 : Int) (wr.iterAt w.heap.size s0 (pos + f.2)) (by omega) (by omega)
      try simp only at hT1
      rw [hT1] at HC
      have HC := Lib.hid HC
      clear hT1
      cases hpu : blkB u with
      | true =>
        have HN := Lib.hid (take_more HA.out (HT2.out hpu))
        rw [hpu] at HC
        clear hpu
        go_wp2_with fail
        (with_reducible refine (HC.out).mono ?_)
        rintro e w2 ⟨rfl, hb2⟩
        have hit3 : w2.heap[w.heap.size]? = some (.stringIter s0 (pos + f.2)) := (hb2.block _ hsz2).trans hit2
        go_wp2_with fail
        go_roundw
        case rel => exact ⟨pos + f.2, rfl, hle, HN, hit3, bel_step hbw2 hb2⟩
        case measure =>
          simp only [World.iterPos, hit3, hit]
          omega
      | false =>
        have HN : Hid (l.takeWhile blkB = l.take pos ∧ l.dropWhile blkB = l.drop pos) := Lib.hid (by
          have := HA.out
          have h2 := HU.out
          rw [hbl] at this h2
          exact take_stop this h2 hpu)
        rw [hpu] at HC
        clear hpu
        go_wp2_with fail
        (with_reducible refine (HC.out).mono ?_)
        rintro e w2 ⟨rfl, hb2⟩
        have hb3 := bel_step hbw2 hb2
        have e0 := Blk.cell (HB.out.below hb3 hg) 0
        have hfz3 := Blk.frozen (HB.out.below hb3 hg)
        simp at e0
        rw [hs0] at e0
        go_wp2_with fail
        go_ret
        exact xrun_fin HB.out hb3 (HS.out.1 _) (HS.out.2 _) HN.out
    · have hnx : ∀ ty, (Instr.next (.pointer (some ⟨w.heap.size, 0, none⟩)) true ty).run Try.prog wr = _ := fun ty => Lib.run_next_end_at wr w.heap.size s0 pos ty hit hp
      have HN : Hid (l.takeWhile blkB = l.take l.length ∧ l.dropWhile blkB = l.drop l.length) := Lib.hid (by
        have := HA.out
        rw [hbl] at this
        have := take_full this (by omega)
        rw [this.1, this.2, List.take_length, List.drop_length]
        exact ⟨rfl, rfl⟩)
      have e0 := Blk.cell (HB.out.below hbw hg) 0
      have hfz3 := Blk.frozen (HB.out.below hbw hg)
      simp at e0
      rw [hs0] at e0
      go_wp2_with fail
      go_ret
      exact xrun_fin HB.out hbw (HS.out.1 _) (by rw [List.drop_length]; rfl) HN.out
set_option maxHeartbeats 4000000 in
theorem run_txt (g : Nat) (l : List UInt8) (b : Bool) (w : World) (hB : XrB w g l b) (hl : l.length ≤ 1000000) :
    Calls Try.prog 38 #[.pointer (some ⟨g, 0, none⟩), .func (.func 39) #[] #[]] w (XRun txtB w g l b) := by
  have hg := Blk.lt hB
  have c0 := Blk.cell hB 0
  simp at c0
  have hfz := Blk.frozen hB
  have HB := Lib.hid hB
  clear hB
  obtain ⟨s0, hs0⟩ : ∃ s0, ByteArray.mk l.toArray = s0 := ⟨_, rfl⟩
  have hbl : bl s0 = l := by rw [← hs0, bl_of]
  have hss : s0.size = l.length := by rw [← hs0, size_of]
  have hs1 : ∀ k, s0.extract 0 k = ⟨(l.take k).toArray⟩ := fun k => by rw [← hs0, xstr_take]
  have hs2 : ∀ k, s0.extract k l.length = ⟨(l.drop k).toArray⟩ := fun k => by rw [← hs0, xstr_drop]
  have HS := Lib.hid (And.intro hs1 hs2)
  clear hs1 hs2
  rw [hs0] at c0
  go_enter Try.func38, Try.ntmps38
  go_wp2_with fail
  go_loopw [5] (fun v wr => ∃ (pos : Nat), v = .int .i64 (l.length : Int) ∧ pos ≤ s0.size ∧ Hid (((bl s0).take pos).all txtB = true) ∧ wr.heap[w.heap.size]? = some (.stringIter s0 pos) ∧ Below w.heap.size w wr) (fun _ wr => s0.size - wr.iterPos w.heap.size)
  case atStart =>
    refine ⟨0, rfl, by omega, Lib.hid rfl, ?_, bel_alloc (Below.refl _ _) _⟩
    have := World.iter_heap w s0 0
    simpa using this
  case round =>
    obtain ⟨pos, rfl, hps, HA, hit, hbw⟩ := hrel
    have hsz : w.heap.size < wr.heap.size := (Array.getElem?_eq_some_iff.1 hit).1
    by_cases hp : pos < s0.size
    · have hnx : ∀ ty, (Instr.next (.pointer (some ⟨w.heap.size, 0, none⟩)) true ty).run Try.prog wr = _ := fun ty => Lib.run_next_any_at wr w.heap.size s0 pos ty hit hp
      rw [decode_bl s0 pos hp] at hnx
      have hu := bl_get s0 pos hp
      have hut : (bl s0).drop pos = s0[pos] :: (bl s0).drop (pos + 1) := by rw [List.drop_eq_getElem_cons (show pos < (bl s0).length by rw [bl_len]; omega), (List.getElem?_eq_some_iff.1 hu).2]
      have hw1 := firstL_width ((bl s0).drop pos) (by rw [hut]; simp)
      have hr1 := (firstL_rune ((bl s0).drop pos)).1
      generalize s0[pos] = u at *
      have hT := runT_txt u ((bl s0).drop (pos + 1))
      rw [← hut] at hT
      have hle : pos + (firstL ((bl s0).drop pos)).2 ≤ s0.size := by have := hw1.2.2; rw [List.length_drop, bl_len] at this; omega
      have hT1 := hT.1
      have HT2 := Lib.hid hT.2
      have HU := Lib.hid hu
      clear hT hut hu
      generalize firstL ((bl s0).drop pos) = f at *
      have hit2 := Lib.iterAt_heap wr w.heap.size s0 pos (pos + f.2) hit
      have hbw2 := Lib.below_iterAt hbw (k := w.heap.size) (by omega) s0 (pos + f.2)
      have hsz2 : w.heap.size < (wr.iterAt w.heap.size s0 (pos + f.2)).heap.size := (Array.getElem?_eq_some_iff.1 hit2).1
      have HC := (part1_any (f.1 : Int) (wr.iterAt w.heap.size s0 (pos + f.2))).mono (fun e w' ⟨h1, h2⟩ => (⟨h1, by rw [← h2]; exact Below.refl _ _⟩ : _ ∧ Below (wr.iterAt w.heap.size s0 (pos + f.2)).heap.size (wr.iterAt w.heap.size s0 (pos + f.2)) w'))
      try simp only at hT1
      rw [hT1] at HC
      have HC := Lib.hid HC
      clear hT1
      cases hpu : txtB u with
      | true =>
        have HN := Lib.hid (take_more HA.out (HT2.out hpu))
        rw [hpu] at HC
        clear hpu
        go_wp2_with fail
        (with_reducible refine (HC.out).mono ?_)
        rintro e w2 ⟨rfl, hb2⟩
        have hit3 : w2.heap[w.heap.size]? = some (.stringIter s0 (pos + f.2)) := (hb2.block _ hsz2).trans hit2
        go_wp2_with fail
        go_roundw
        case rel => exact ⟨pos + f.2, rfl, hle, HN, hit3, bel_step hbw2 hb2⟩
        case measure =>
          simp only [World.iterPos, hit3, hit]
          omega
      | false =>
        have HN : Hid (l.takeWhile txtB = l.take pos ∧ l.dropWhile txtB = l.drop pos) := Lib.hid (by
          have := HA.out
          have h2 := HU.out
          rw [hbl] at this h2
          exact take_stop this h2 hpu)
        rw [hpu] at HC
        clear hpu
        go_wp2_with fail
        (with_reducible refine (HC.out).mono ?_)
        rintro e w2 ⟨rfl, hb2⟩
        have hb3 := bel_step hbw2 hb2
        have e0 := Blk.cell (HB.out.below hb3 hg) 0
        have hfz3 := Blk.frozen (HB.out.below hb3 hg)
        simp at e0
        rw [hs0] at e0
        go_wp2_with fail
        go_ret
        exact xrun_fin HB.out hb3 (HS.out.1 _) (HS.out.2 _) HN.out
    · have hnx : ∀ ty, (Instr.next (.pointer (some ⟨w.heap.size, 0, none⟩)) true ty).run Try.prog wr = _ := fun ty => Lib.run_next_end_at wr w.heap.size s0 pos ty hit hp
      have HN : Hid (l.takeWhile txtB = l.take l.length ∧ l.dropWhile txtB = l.drop l.length) := Lib.hid (by
        have := HA.out
        rw [hbl] at this
        have := take_full this (by omega)
        rw [this.1, this.2, List.take_length, List.drop_length]
        exact ⟨rfl, rfl⟩)
      have e0 := Blk.cell (HB.out.below hbw hg) 0
      have hfz3 := Blk.frozen (HB.out.below hbw hg)
      simp at e0
      rw [hs0] at e0
      go_wp2_with fail
      go_ret
      exact xrun_fin HB.out hbw (HS.out.1 _) (by rw [List.drop_length]; rfl) HN.out
end Go.Proofs.Ytnagckdaleafdaa
