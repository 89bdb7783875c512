/-
  The document's attr.
  The document's upto, open.
-/
import Derived.Test.YtjmmgekildlckaaXmM
import Derived.Test.YtjmmgekildlckaaXmN
import Derived.Test.YtjmmgekildlckaaEntA
section
namespace Go.Proofs.Ytjmmgekildlckaa
open Go.RowKit Go.Nst
set_option maxRecDepth 100000
set_option linter.unusedVariables false
set_option linter.unusedSimpArgs false

def arV (o : Option (Xat × List UInt8)) : Value := match o with
  | none => .tuple #[.agg #[.string ⟨#[]⟩, .string ⟨#[]⟩], .string ⟨#[]⟩, .bool false]
  | some (a, b) => .tuple #[.agg (xaV a), .string ⟨b.toArray⟩, .bool true]
def RetAR (w : World) (o : Option (Xat × List UInt8)) (e : Ending) (w' : World) : Prop := e = .returned (arV o) ∧ Below w.heap.size w w'
theorem attr_none {l : List UInt8} (h : nameD l = none) : attrD l = none := by unfold attrD; rw [h]
theorem attr_none1 {l n r : List UInt8} (h : nameD l = some (n, r)) (h1 : r.dropWhile blkB = []) : attrD l = none := by unfold attrD; rw [h]; simp only; rw [h1]
theorem attr_none2 {l n r t : List UInt8} {c : UInt8} (h : nameD l = some (n, r)) (h1 : r.dropWhile blkB = c :: t) (h2 : c ≠ 61) : attrD l = none := by unfold attrD; rw [h]; simp only; rw [h1]; simp only; rw [if_neg h2]
theorem attr_val {l n r t : List UInt8} (h : nameD l = some (n, r)) (h1 : r.dropWhile blkB = 61 :: t) : attrD l = match valD (t.dropWhile blkB) with | none => none | some (v, b) => some (⟨n, v⟩, b) := by unfold attrD; rw [h]; simp only; rw [h1]; simp only; rw [if_pos trivial]; rfl
theorem val_q {q : UInt8} {u : List UInt8} (h : ¬ (q = 34 ∨ q = 39)) : valD (q :: u) = none := by simp only [valD]; rw [if_neg h]
theorem val_none {q : UInt8} {u : List UInt8} (h : (Lib.index u [q]) = -1) : valD (q :: u) = none := by
  simp only [valD]
  split
  · unfold Lib.cut
    rw [h]
    simp
  · rfl
theorem val_lt {q : UInt8} {u : List UInt8} {i : Nat} (h : (Lib.index u [q]) = i) (h2 : (60 : UInt8) ∈ u.take i) : valD (q :: u) = none := by
  simp only [valD]
  split
  · unfold Lib.cut
    rw [h]
    simp [h2]
  · rfl
theorem val_some {q : UInt8} {u : List UInt8} {i : Nat} (hq : q = 34 ∨ q = 39) (h : (Lib.index u [q]) = i) (h2 : (60 : UInt8) ∉ u.take i) : valD (q :: u) = some (readL (u.take i), u.drop (i + 1)) := by
  simp only [valD]
  rw [if_pos hq]
  unfold Lib.cut
  rw [h]
  simp [h2]
theorem below_setCell {B : Nat} {a w : World} (h : Below B a w) {k j : Nat} (hk : B ≤ k) (v : Value) : Below B a (w.setCell ⟨k, j, none⟩ v) :=
  h.setCell hk v
set_option maxHeartbeats 8000000 in
theorem refAttr8_any (l : List UInt8) (w : World) (hl : l.length ≤ 100000) : Calls Try.prog 59 #[.string ⟨l.toArray⟩] w (RetAR w (attrD l)) := by
  have HN := Lib.hid (fun W => refName8_any l W (by omega))
  cases hn : nameD l with
  | none =>
    rw [attr_none hn]
    have hr : nameR l = ([], l) := by unfold nameR; rw [hn]
    rw [hr] at HN
    have HB1 := Lib.hid (fun W => refBlanks8_any l W (by omega))
    generalize l.dropWhile blkB = d at *
    clear hn hr
    go_enter Try.func59, Try.ntmps59
    go_wp2_with fail
    have HK := Lib.hid (Blk.new w 51 #[.string ⟨#[]⟩, .string ⟨#[]⟩])
    have B0 := Lib.hid (bel_alloc (Below.refl w.heap.size w) (.cells #[.string ⟨#[]⟩, .string ⟨#[]⟩] 51))
    (with_reducible refine (HN.out _).mono ?_)
    rintro e w1 ⟨rfl, hb⟩
    have B1 := Lib.hid (bel_step B0.out hb)
    have K1 := Lib.hid (HK.out.below hb HK.out.lt)
    clear hb B0 HK
    go_wp2_with fail
    (with_reducible refine (HB1.out _).mono ?_)
    rintro e w1 ⟨rfl, rfl⟩
    have zf := (K1.out).frozen
    have z0 := (K1.out).cell 0
    have z1 := (K1.out).cell 1
    simp at z0 z1
    go_wp2_with fail
    have y := set2x (x := .string ⟨#[]⟩) (y := .string ⟨#[]⟩) K1.out
    have y0 := y.cell 0
    have y1 := y.cell 1
    simp at y0 y1
    exact bodyPost_ret (v := arV none) (by simp [results, Try.results59, go_sem, arV, y0, y1]) rfl (show RetAR w none (.returned (arV none)) _ from ⟨rfl, below_setCell (below_setCell B1.out (Nat.le_refl _) _) (Nat.le_refl _) _⟩)
  | some x =>
    obtain ⟨n, r⟩ := x
    have hr : nameR l = (n, r) := by unfold nameR; rw [hn]
    have hnl := nameD_len hn
    have hn0 := hnl.2.1
    have hn1 : n.length ≤ 100000 := by omega
    have hrl : r.length ≤ 100000 := by omega
    have hne1 : n.isEmpty = false := by cases n with | nil => simp at hn0 | cons a b => rfl
    have hne2 : ¬ n = [] := by simpa using hne1
    have hne3 : ((⟨n.toArray⟩ : ByteArray) == ⟨#[]⟩) = false := by cases n with | nil => simp at hn0 | cons a b => rfl
    rw [hr] at HN
    have HB1 := Lib.hid (fun W => refBlanks8_any r W (by omega))
    have hdl := dropW_len blkB r
    clear hr hnl hn0
    cases hd : r.dropWhile blkB with
    | nil =>
      rw [attr_none1 hn hd]
      rw [hd] at HB1
      have HS := Lib.hid (fun W => refHas8_any [] [61] W (by simp) (by simp))
      clear hn hd hdl
      go_enter Try.func59, Try.ntmps59
      go_wp2_with fail
      have HK := Lib.hid (Blk.new w 51 #[.string ⟨#[]⟩, .string ⟨#[]⟩])
      have B0 := Lib.hid (bel_alloc (Below.refl w.heap.size w) (.cells #[.string ⟨#[]⟩, .string ⟨#[]⟩] 51))
      (with_reducible refine (HN.out _).mono ?_)
      rintro e w1 ⟨rfl, hb⟩
      have B1 := Lib.hid (bel_step B0.out hb)
      have K1 := Lib.hid (HK.out.below hb HK.out.lt)
      clear hb B0 HK
      go_wp2_with fail
      (with_reducible refine (HB1.out _).mono ?_)
      rintro e w1 ⟨rfl, rfl⟩
      go_wp2_with fail
      (with_reducible refine (HS.out _).mono ?_)
      rintro e w1 ⟨rfl, rfl⟩
      have zf := (K1.out).frozen
      have z0 := (K1.out).cell 0
      have z1 := (K1.out).cell 1
      simp at z0 z1
      go_wp2_with fail
      have y := set2x (x := .string ⟨#[]⟩) (y := .string ⟨#[]⟩) K1.out
      have y0 := y.cell 0
      have y1 := y.cell 1
      simp at y0 y1
      exact bodyPost_ret (v := arV none) (by simp [results, Try.results59, go_sem, arV, y0, y1]) rfl (show RetAR w none (.returned (arV none)) _ from ⟨rfl, below_setCell (below_setCell B1.out (Nat.le_refl _) _) (Nat.le_refl _) _⟩)
    | cons c t =>
      rw [hd] at hdl HB1
      simp only [List.length_cons] at hdl
      have HS := Lib.hid (fun W => refHas8_any (c :: t) [61] W (by simp only [List.length_cons]; omega) (by simp))
      rw [has_c1] at HS
      by_cases h61 : c = 61
      · subst h61
        rw [attr_val hn hd]
        have hs61 : ((61 : UInt8) == 61) = true := rfl
        rw [hs61] at HS
        obtain ⟨s1, hs1⟩ : ∃ s1, ByteArray.mk (61 :: t).toArray = s1 := ⟨_, rfl⟩
        have hz1 : s1.size = t.length + 1 := by rw [← hs1, size_of]; rfl
        have hx1 : s1.extract 1 s1.size = ⟨t.toArray⟩ := by rw [hz1, ← hs1]; exact xstr_drop (61 :: t) 1
        have hp1 : 1 ≤ s1.size := by omega
        have hp2 : s1.size ≤ 1000000 := by omega
        unfold RetStr at HB1
        rw [hs1] at HS HB1
        have HB2 := Lib.hid (fun W => refBlanks8_any t W (by omega))
        have hdl2 := dropW_len blkB t
        clear hn hd hs1 hz1 hs61
        cases hd2 : t.dropWhile blkB with
        | nil =>
          rw [show (match valD [] with | none => none | some (v, b) => some ((⟨n, v⟩ : Xat), b)) = none from rfl]
          rw [hd2] at HB2
          clear hd2 hdl2
          go_enter Try.func59, Try.ntmps59
          go_wp2_with fail
          have HK := Lib.hid (Blk.new w 51 #[.string ⟨#[]⟩, .string ⟨#[]⟩])
          have B0 := Lib.hid (bel_alloc (Below.refl w.heap.size w) (.cells #[.string ⟨#[]⟩, .string ⟨#[]⟩] 51))
          (with_reducible refine (HN.out _).mono ?_)
          rintro e w1 ⟨rfl, hb⟩
          have B1 := Lib.hid (bel_step B0.out hb)
          have K1 := Lib.hid (HK.out.below hb HK.out.lt)
          clear hb B0 HK
          go_wp2_with fail
          (with_reducible refine (HB1.out _).mono ?_)
          rintro e w1 ⟨rfl, rfl⟩
          go_wp2_with fail
          (with_reducible refine (HS.out _).mono ?_)
          rintro e w1 ⟨rfl, rfl⟩
          go_wp2_with fail
          (with_reducible refine (HB2.out _).mono ?_)
          rintro e w1 ⟨rfl, rfl⟩
          have zf := (K1.out).frozen
          have z0 := (K1.out).cell 0
          have z1 := (K1.out).cell 1
          simp at z0 z1
          go_wp2_with fail
          have y := set2x (x := .string ⟨#[]⟩) (y := .string ⟨#[]⟩) K1.out
          have y0 := y.cell 0
          have y1 := y.cell 1
          simp at y0 y1
          exact bodyPost_ret (v := arV none) (by simp [results, Try.results59, go_sem, arV, y0, y1]) rfl (show RetAR w none (.returned (arV none)) _ from ⟨rfl, below_setCell (below_setCell B1.out (Nat.le_refl _) _) (Nat.le_refl _) _⟩)
        | cons q u =>
          rw [hd2] at HB2 hdl2
          simp only [List.length_cons] at hdl2
          obtain ⟨s2, hs2⟩ : ∃ s2, ByteArray.mk (q :: u).toArray = s2 := ⟨_, rfl⟩
          have hz2 : s2.size = u.length + 1 := by rw [← hs2, size_of]; rfl
          have hx2 : s2.extract 1 s2.size = ⟨u.toArray⟩ := by rw [hz2, ← hs2]; exact xstr_drop (q :: u) 1
          have hx3 : s2.extract 0 1 = ⟨#[q]⟩ := by rw [← hs2]; exact xstr_take (q :: u) 1
          have hx4 : ∀ i, s2.extract 1 (1 + i) = ⟨(u.take i).toArray⟩ := fun i => by
            have h1 := bl_mid s2 1 (1 + i)
            have h2 : bl s2 = q :: u := by rw [← hs2, bl_of]
            rw [h2, Nat.add_sub_cancel_left] at h1
            apply ByteArray.ext
            apply Array.ext'
            exact h1
          have hx5 : ∀ i, s2.extract (2 + i) s2.size = ⟨(u.drop (i + 1)).toArray⟩ := fun i => by
            rw [hz2, ← hs2]
            have := xstr_drop (q :: u) (2 + i)
            rw [show 2 + i = (i + 1) + 1 by omega, List.drop_succ_cons] at this
            rw [show 2 + i = (i + 1) + 1 by omega]
            exact this
          have hp3 : 0 < s2.size := by omega
          have hp5 : 1 ≤ s2.size := by omega
          have hp4 : s2.size ≤ 1000000 := by omega
          have hg0 : s2[0] = q := by subst hs2; rfl
          have hq8 := q.toNat_lt
          have hw1 : ¬ s2.size = 0 := by omega
          have hw2 : ¬ s2 = ByteArray.empty := fun e => hw1 (by rw [e]; rfl)
          have hw4 : ((s2.size : Int) == 0) = false := by simp; exact hw2
          have hul : u.length + 1 = s2.size := by omega
          unfold RetStr at HB2
          rw [hs2] at HB2
          clear hd2 hs2 hz2
          by_cases hq : q = 34 ∨ q = 39
          · have hqn : ((q.toNat : Int) != 34 && (q.toNat : Int) != 39) = false := by rcases hq with rfl | rfl <;> rfl
            have HF : Hid (∀ W : World, Calls Try.prog 40 #[.string ⟨u.toArray⟩, .string ⟨#[q]⟩] W fun e w' => e = .returned (.int .i64 (Lib.index u [q])) ∧ W = w') := Lib.hid (fun W => (refFind8_any u [q] W (by omega) (by simp) (by simp)).mono (fun _ _ ⟨h1, h2⟩ => ⟨h1, h2.symm⟩))
            have HQ := Lib.hid hq
            rcases Lib.index_spec u [q] with ⟨hi, -⟩ | ⟨i, hi, hil, -, -⟩
            · rw [val_none hi]
              rw [hi] at HF
              simp only
              clear hi
              rcases HQ.out with rfl | rfl
              · go_enter Try.func59, Try.ntmps59
                go_wp2_with fail
                have HK := Lib.hid (Blk.new w 51 #[.string ⟨#[]⟩, .string ⟨#[]⟩])
                have B0 := Lib.hid (bel_alloc (Below.refl w.heap.size w) (.cells #[.string ⟨#[]⟩, .string ⟨#[]⟩] 51))
                (with_reducible refine (HN.out _).mono ?_)
                rintro e w1 ⟨rfl, hb⟩
                have B1 := Lib.hid (bel_step B0.out hb)
                have K1 := Lib.hid (HK.out.below hb HK.out.lt)
                clear hb B0 HK
                go_wp2_with fail
                (with_reducible refine (HB1.out _).mono ?_)
                rintro e w1 ⟨rfl, rfl⟩
                go_wp2_with fail
                (with_reducible refine (HS.out _).mono ?_)
                rintro e w1 ⟨rfl, rfl⟩
                go_wp2_with fail
                (with_reducible refine (HB2.out _).mono ?_)
                rintro e w1 ⟨rfl, rfl⟩
                go_wp2_with fail
                go_quiet ((go_at_call 40; exact quiet_same (HF.out _)))
                have zf := ((K1.out.drewN nq)).frozen
                have z0 := ((K1.out.drewN nq)).cell 0
                have z1 := ((K1.out.drewN nq)).cell 1
                simp at z0 z1
                go_wp2_with fail
                have y := set2x (x := .string ⟨#[]⟩) (y := .string ⟨#[]⟩) (K1.out.drewN nq)
                have y0 := y.cell 0
                have y1 := y.cell 1
                simp at y0 y1
                exact bodyPost_ret (v := arV none) (by simp [results, Try.results59, go_sem, arV, y0, y1]) rfl (show RetAR w none (.returned (arV none)) _ from ⟨rfl, below_setCell (below_setCell (Nst.below_drewN B1.out nq) (Nat.le_refl _) _) (Nat.le_refl _) _⟩)
              · go_enter Try.func59, Try.ntmps59
                go_wp2_with fail
                have HK := Lib.hid (Blk.new w 51 #[.string ⟨#[]⟩, .string ⟨#[]⟩])
                have B0 := Lib.hid (bel_alloc (Below.refl w.heap.size w) (.cells #[.string ⟨#[]⟩, .string ⟨#[]⟩] 51))
                (with_reducible refine (HN.out _).mono ?_)
                rintro e w1 ⟨rfl, hb⟩
                have B1 := Lib.hid (bel_step B0.out hb)
                have K1 := Lib.hid (HK.out.below hb HK.out.lt)
                clear hb B0 HK
                go_wp2_with fail
                (with_reducible refine (HB1.out _).mono ?_)
                rintro e w1 ⟨rfl, rfl⟩
                go_wp2_with fail
                (with_reducible refine (HS.out _).mono ?_)
                rintro e w1 ⟨rfl, rfl⟩
                go_wp2_with fail
                (with_reducible refine (HB2.out _).mono ?_)
                rintro e w1 ⟨rfl, rfl⟩
                go_wp2_with fail
                go_quiet ((go_at_call 40; exact quiet_same (HF.out _)))
                have zf := ((K1.out.drewN nq)).frozen
                have z0 := ((K1.out.drewN nq)).cell 0
                have z1 := ((K1.out.drewN nq)).cell 1
                simp at z0 z1
                go_wp2_with fail
                have y := set2x (x := .string ⟨#[]⟩) (y := .string ⟨#[]⟩) (K1.out.drewN nq)
                have y0 := y.cell 0
                have y1 := y.cell 1
                simp at y0 y1
                exact bodyPost_ret (v := arV none) (by simp [results, Try.results59, go_sem, arV, y0, y1]) rfl (show RetAR w none (.returned (arV none)) _ from ⟨rfl, below_setCell (below_setCell (Nst.below_drewN B1.out nq) (Nat.le_refl _) _) (Nat.le_refl _) _⟩)
            · rw [hi] at HF
              have hroom := Lib.index_room u [q] (by rw [hi]; omega)
              rw [hi] at hroom
              simp at hroom
              have HF2 := Lib.hid (fun W => (refFind8_any (u.take i) [60] W (by rw [List.length_take]; omega) (by simp) (by simp)))
              have hin := ib_mem 60 (u.take i)
              rw [← Lib.index_one] at hin
              cases hm : decide ((60 : UInt8) ∈ u.take i) with
              | true =>
                rw [hm] at hin
                rw [val_lt hi (by simpa using hm)]
                simp only
                generalize Lib.index (u.take i) [60] = z at *
                clear hi hm
                rcases HQ.out with rfl | rfl
                · go_enter Try.func59, Try.ntmps59
                  go_wp2_with fail
                  have HK := Lib.hid (Blk.new w 51 #[.string ⟨#[]⟩, .string ⟨#[]⟩])
                  have B0 := Lib.hid (bel_alloc (Below.refl w.heap.size w) (.cells #[.string ⟨#[]⟩, .string ⟨#[]⟩] 51))
                  (with_reducible refine (HN.out _).mono ?_)
                  rintro e w1 ⟨rfl, hb⟩
                  have B1 := Lib.hid (bel_step B0.out hb)
                  have K1 := Lib.hid (HK.out.below hb HK.out.lt)
                  clear hb B0 HK
                  go_wp2_with fail
                  (with_reducible refine (HB1.out _).mono ?_)
                  rintro e w1 ⟨rfl, rfl⟩
                  go_wp2_with fail
                  (with_reducible refine (HS.out _).mono ?_)
                  rintro e w1 ⟨rfl, rfl⟩
                  go_wp2_with fail
                  (with_reducible refine (HB2.out _).mono ?_)
                  rintro e w1 ⟨rfl, rfl⟩
                  go_wp2_with fail
                  go_quiet ((go_at_call 40; exact quiet_same (HF.out _)))
                  go_wp2_with fail
                  (with_reducible refine (HF2.out _).mono ?_)
                  rintro e w1 ⟨rfl, rfl⟩
                  have zf := ((K1.out.drewN nq)).frozen
                  have z0 := ((K1.out.drewN nq)).cell 0
                  have z1 := ((K1.out.drewN nq)).cell 1
                  simp at z0 z1
                  go_wp2_with fail
                  have y := set2x (x := .string ⟨#[]⟩) (y := .string ⟨#[]⟩) (K1.out.drewN nq)
                  have y0 := y.cell 0
                  have y1 := y.cell 1
                  simp at y0 y1
                  exact bodyPost_ret (v := arV none) (by simp [results, Try.results59, go_sem, arV, y0, y1]) rfl (show RetAR w none (.returned (arV none)) _ from ⟨rfl, below_setCell (below_setCell (Nst.below_drewN B1.out nq) (Nat.le_refl _) _) (Nat.le_refl _) _⟩)
                · go_enter Try.func59, Try.ntmps59
                  go_wp2_with fail
                  have HK := Lib.hid (Blk.new w 51 #[.string ⟨#[]⟩, .string ⟨#[]⟩])
                  have B0 := Lib.hid (bel_alloc (Below.refl w.heap.size w) (.cells #[.string ⟨#[]⟩, .string ⟨#[]⟩] 51))
                  (with_reducible refine (HN.out _).mono ?_)
                  rintro e w1 ⟨rfl, hb⟩
                  have B1 := Lib.hid (bel_step B0.out hb)
                  have K1 := Lib.hid (HK.out.below hb HK.out.lt)
                  clear hb B0 HK
                  go_wp2_with fail
                  (with_reducible refine (HB1.out _).mono ?_)
                  rintro e w1 ⟨rfl, rfl⟩
                  go_wp2_with fail
                  (with_reducible refine (HS.out _).mono ?_)
                  rintro e w1 ⟨rfl, rfl⟩
                  go_wp2_with fail
                  (with_reducible refine (HB2.out _).mono ?_)
                  rintro e w1 ⟨rfl, rfl⟩
                  go_wp2_with fail
                  go_quiet ((go_at_call 40; exact quiet_same (HF.out _)))
                  go_wp2_with fail
                  (with_reducible refine (HF2.out _).mono ?_)
                  rintro e w1 ⟨rfl, rfl⟩
                  have zf := ((K1.out.drewN nq)).frozen
                  have z0 := ((K1.out.drewN nq)).cell 0
                  have z1 := ((K1.out.drewN nq)).cell 1
                  simp at z0 z1
                  go_wp2_with fail
                  have y := set2x (x := .string ⟨#[]⟩) (y := .string ⟨#[]⟩) (K1.out.drewN nq)
                  have y0 := y.cell 0
                  have y1 := y.cell 1
                  simp at y0 y1
                  exact bodyPost_ret (v := arV none) (by simp [results, Try.results59, go_sem, arV, y0, y1]) rfl (show RetAR w none (.returned (arV none)) _ from ⟨rfl, below_setCell (below_setCell (Nst.below_drewN B1.out nq) (Nat.le_refl _) _) (Nat.le_refl _) _⟩)
              | false =>
                rw [hm] at hin
                rw [val_some HQ.out hi (by simpa using hm)]
                simp only
                generalize Lib.index (u.take i) [60] = z at *
                have HR := Lib.hid (fun W => refRead7_any ⟨(u.take i).toArray⟩ W (by rw [size_of, List.length_take]; omega))
                rw [bl_of] at HR
                clear hi hm
                rcases HQ.out with rfl | rfl
                · go_enter Try.func59, Try.ntmps59
                  go_wp2_with fail
                  have HK := Lib.hid (Blk.new w 51 #[.string ⟨#[]⟩, .string ⟨#[]⟩])
                  have B0 := Lib.hid (bel_alloc (Below.refl w.heap.size w) (.cells #[.string ⟨#[]⟩, .string ⟨#[]⟩] 51))
                  (with_reducible refine (HN.out _).mono ?_)
                  rintro e w1 ⟨rfl, hb⟩
                  have B1 := Lib.hid (bel_step B0.out hb)
                  have K1 := Lib.hid (HK.out.below hb HK.out.lt)
                  clear hb B0 HK
                  go_wp2_with fail
                  (with_reducible refine (HB1.out _).mono ?_)
                  rintro e w1 ⟨rfl, rfl⟩
                  go_wp2_with fail
                  (with_reducible refine (HS.out _).mono ?_)
                  rintro e w1 ⟨rfl, rfl⟩
                  go_wp2_with fail
                  (with_reducible refine (HB2.out _).mono ?_)
                  rintro e w1 ⟨rfl, rfl⟩
                  go_wp2_with fail
                  go_quiet ((go_at_call 40; exact quiet_same (HF.out _)))
                  go_wp2_with fail
                  (with_reducible refine (HF2.out _).mono ?_)
                  rintro e w1 ⟨rfl, rfl⟩
                  go_wp2_with fail
                  have B2 := Lib.hid ((Nst.below_drewN B1.out nq).drew)
                  have K2 := Lib.hid ((K1.out.drewN nq).drew)
                  refine wp_region_seqD (Below w.heap.size) (Below.refl w.heap.size) (fun _ _ _ h1 h2 => h1.trans h2) (by kernel_rfl) [(0, true), (1, true), (2, true), (3, true), (4, true), (7, true), (8, true), (9, true), (10, true), (5, false), (6, true), (11, false), (12, true), (13, true)] (by kernel_rfl) rfl (by kernel_rfl) ?_
                  generalize (w1.drewN nq).drew = w2 at *
                  have v1 : IntKind.i64.wrap (1 + (i : Int)) = 1 + (i : Int) := IntWalk.i64_in _ (by omega)
                  have v2 : IntKind.i64.wrap (2 + (i : Int)) = 2 + (i : Int) := IntWalk.i64_in _ (by omega)
                  have v3 : (1 + (i : Int)).toNat = 1 + i := by omega
                  have v4 : (2 + (i : Int)).toNat = 2 + i := by omega
                  have v5 : (0 : Int) ≤ 1 + (i : Int) := by omega
                  have v6 : (1 + (i : Int)) ≤ (s2.size : Int) := by omega
                  have v7 : (1 : Int) ≤ 1 + (i : Int) := by omega
                  have v8 : (0 : Int) ≤ 2 + (i : Int) := by omega
                  have v9 : (2 + (i : Int)) ≤ (s2.size : Int) := by omega
                  iterate 9 (refine wpSeqR_take (o := ⟨_, _, _, _, _, _⟩) (v := ?_) rfl rfl ?_ ?_; rotate_left; (focus (intro W hW; go_simp; first | done | with_reducible rfl)); simp only [Act.put, List.setIfInBounds_toArray, List.set_cons_zero, List.set_cons_succ])
                  refine wpSeqR_exec (o := ⟨_, _, _, _, _, _⟩) rfl rfl (fun K hK => ?_)
                  go_simp
                  refine (HR.out w2).mono ?_
                  rintro e w3 ⟨rfl, hb3⟩
                  refine hK _ _ (hb3.mono B2.out.size) ?_
                  clear hK K
                  have B3 := Lib.hid (bel_step B2.out hb3)
                  have K3 := Lib.hid (K2.out.below hb3 K2.out.lt)
                  clear B2 K2 hb3
                  have z0 := K3.out.cell 0
                  have z1 := K3.out.cell 1
                  have zf := K3.out.frozen
                  simp at z0 z1
                  iterate 1 (refine wpSeqR_take (o := ⟨_, _, _, _, _, _⟩) (v := ?_) rfl rfl ?_ ?_; rotate_left; (focus (intro W hW; go_simp; first | done | with_reducible rfl)); simp only [Act.put, List.setIfInBounds_toArray, List.set_cons_zero, List.set_cons_succ])
                  refine wpSeqR_exec (o := ⟨_, _, _, _, _, _⟩) rfl rfl (fun K hK => ?_)
                  go_simp
                  refine hK _ _ (below_setCell (below_setCell (Below.refl _ _) (Nat.le_refl _) _) (Nat.le_refl _) _) ?_
                  clear hK K
                  iterate 2 (refine wpSeqR_take (o := ⟨_, _, _, _, _, _⟩) (v := ?_) rfl rfl ?_ ?_; rotate_left; (focus (intro W hW; go_simp; first | done | with_reducible rfl)); simp only [Act.put, List.setIfInBounds_toArray, List.set_cons_zero, List.set_cons_succ])
                  refine wpSeqR_nil ?_
                  go_wp2_with fail
                  have y := set2x (x := .string ⟨n.toArray⟩) (y := .string ⟨(readL (u.take i)).toArray⟩) K3.out
                  have y0 := y.cell 0
                  have y1 := y.cell 1
                  simp at y0 y1
                  exact bodyPost_ret (v := arV (some (⟨n, readL (u.take i)⟩, u.drop (i + 1)))) (by simp [results, Try.results59, go_sem, arV, xaV, y0, y1]) rfl (show RetAR w (some (⟨n, readL (u.take i)⟩, u.drop (i + 1))) (.returned (arV (some (⟨n, readL (u.take i)⟩, u.drop (i + 1))))) _ from ⟨rfl, below_setCell (below_setCell B3.out (Nat.le_refl _) _) (Nat.le_refl _) _⟩)
                · go_enter Try.func59, Try.ntmps59
                  go_wp2_with fail
                  have HK := Lib.hid (Blk.new w 51 #[.string ⟨#[]⟩, .string ⟨#[]⟩])
                  have B0 := Lib.hid (bel_alloc (Below.refl w.heap.size w) (.cells #[.string ⟨#[]⟩, .string ⟨#[]⟩] 51))
                  (with_reducible refine (HN.out _).mono ?_)
                  rintro e w1 ⟨rfl, hb⟩
                  have B1 := Lib.hid (bel_step B0.out hb)
                  have K1 := Lib.hid (HK.out.below hb HK.out.lt)
                  clear hb B0 HK
                  go_wp2_with fail
                  (with_reducible refine (HB1.out _).mono ?_)
                  rintro e w1 ⟨rfl, rfl⟩
                  go_wp2_with fail
                  (with_reducible refine (HS.out _).mono ?_)
                  rintro e w1 ⟨rfl, rfl⟩
                  go_wp2_with fail
                  (with_reducible refine (HB2.out _).mono ?_)
                  rintro e w1 ⟨rfl, rfl⟩
                  go_wp2_with fail
                  go_quiet ((go_at_call 40; exact quiet_same (HF.out _)))
                  go_wp2_with fail
                  (with_reducible refine (HF2.out _).mono ?_)
                  rintro e w1 ⟨rfl, rfl⟩
                  go_wp2_with fail
                  have B2 := Lib.hid ((Nst.below_drewN B1.out nq).drew)
                  have K2 := Lib.hid ((K1.out.drewN nq).drew)
                  refine wp_region_seqD (Below w.heap.size) (Below.refl w.heap.size) (fun _ _ _ h1 h2 => h1.trans h2) (by kernel_rfl) [(0, true), (1, true), (2, true), (3, true), (4, true), (7, true), (8, true), (9, true), (10, true), (5, false), (6, true), (11, false), (12, true), (13, true)] (by kernel_rfl) rfl (by kernel_rfl) ?_
                  generalize (w1.drewN nq).drew = w2 at *
                  have v1 : IntKind.i64.wrap (1 + (i : Int)) = 1 + (i : Int) := IntWalk.i64_in _ (by omega)
                  have v2 : IntKind.i64.wrap (2 + (i : Int)) = 2 + (i : Int) := IntWalk.i64_in _ (by omega)
                  have v3 : (1 + (i : Int)).toNat = 1 + i := by omega
                  have v4 : (2 + (i : Int)).toNat = 2 + i := by omega
                  have v5 : (0 : Int) ≤ 1 + (i : Int) := by omega
                  have v6 : (1 + (i : Int)) ≤ (s2.size : Int) := by omega
                  have v7 : (1 : Int) ≤ 1 + (i : Int) := by omega
                  have v8 : (0 : Int) ≤ 2 + (i : Int) := by omega
                  have v9 : (2 + (i : Int)) ≤ (s2.size : Int) := by omega
                  iterate 9 (refine wpSeqR_take (o := ⟨_, _, _, _, _, _⟩) (v := ?_) rfl rfl ?_ ?_; rotate_left; (focus (intro W hW; go_simp; first | done | with_reducible rfl)); simp only [Act.put, List.setIfInBounds_toArray, List.set_cons_zero, List.set_cons_succ])
                  refine wpSeqR_exec (o := ⟨_, _, _, _, _, _⟩) rfl rfl (fun K hK => ?_)
                  go_simp
                  refine (HR.out w2).mono ?_
                  rintro e w3 ⟨rfl, hb3⟩
                  refine hK _ _ (hb3.mono B2.out.size) ?_
                  clear hK K
                  have B3 := Lib.hid (bel_step B2.out hb3)
                  have K3 := Lib.hid (K2.out.below hb3 K2.out.lt)
                  clear B2 K2 hb3
                  have z0 := K3.out.cell 0
                  have z1 := K3.out.cell 1
                  have zf := K3.out.frozen
                  simp at z0 z1
                  iterate 1 (refine wpSeqR_take (o := ⟨_, _, _, _, _, _⟩) (v := ?_) rfl rfl ?_ ?_; rotate_left; (focus (intro W hW; go_simp; first | done | with_reducible rfl)); simp only [Act.put, List.setIfInBounds_toArray, List.set_cons_zero, List.set_cons_succ])
                  refine wpSeqR_exec (o := ⟨_, _, _, _, _, _⟩) rfl rfl (fun K hK => ?_)
                  go_simp
                  refine hK _ _ (below_setCell (below_setCell (Below.refl _ _) (Nat.le_refl _) _) (Nat.le_refl _) _) ?_
                  clear hK K
                  iterate 2 (refine wpSeqR_take (o := ⟨_, _, _, _, _, _⟩) (v := ?_) rfl rfl ?_ ?_; rotate_left; (focus (intro W hW; go_simp; first | done | with_reducible rfl)); simp only [Act.put, List.setIfInBounds_toArray, List.set_cons_zero, List.set_cons_succ])
                  refine wpSeqR_nil ?_
                  go_wp2_with fail
                  have y := set2x (x := .string ⟨n.toArray⟩) (y := .string ⟨(readL (u.take i)).toArray⟩) K3.out
                  have y0 := y.cell 0
                  have y1 := y.cell 1
                  simp at y0 y1
                  exact bodyPost_ret (v := arV (some (⟨n, readL (u.take i)⟩, u.drop (i + 1)))) (by simp [results, Try.results59, go_sem, arV, xaV, y0, y1]) rfl (show RetAR w (some (⟨n, readL (u.take i)⟩, u.drop (i + 1))) (.returned (arV (some (⟨n, readL (u.take i)⟩, u.drop (i + 1))))) _ from ⟨rfl, below_setCell (below_setCell B3.out (Nat.le_refl _) _) (Nat.le_refl _) _⟩)
          · rw [val_q hq]
            simp only
            have hq1 : ((q.toNat : Int) != 34) = true := by
              simp only [bne_iff_ne, ne_eq]
              intro e
              exact hq (.inl (UInt8.toNat_inj.1 (by show q.toNat = 34; omega)))
            have hq2 : ((q.toNat : Int) != 39) = true := by
              simp only [bne_iff_ne, ne_eq]
              intro e
              exact hq (.inr (UInt8.toNat_inj.1 (by show q.toNat = 39; omega)))
            have hq3 : ((q.toNat : Int) == 34) = false := by simpa [bne] using hq1
            have hq4 : ((q.toNat : Int) == 39) = false := by simpa [bne] using hq2
            clear hq
            go_enter Try.func59, Try.ntmps59
            go_wp2_with fail
            have HK := Lib.hid (Blk.new w 51 #[.string ⟨#[]⟩, .string ⟨#[]⟩])
            have B0 := Lib.hid (bel_alloc (Below.refl w.heap.size w) (.cells #[.string ⟨#[]⟩, .string ⟨#[]⟩] 51))
            (with_reducible refine (HN.out _).mono ?_)
            rintro e w1 ⟨rfl, hb⟩
            have B1 := Lib.hid (bel_step B0.out hb)
            have K1 := Lib.hid (HK.out.below hb HK.out.lt)
            clear hb B0 HK
            go_wp2_with fail
            (with_reducible refine (HB1.out _).mono ?_)
            rintro e w1 ⟨rfl, rfl⟩
            go_wp2_with fail
            (with_reducible refine (HS.out _).mono ?_)
            rintro e w1 ⟨rfl, rfl⟩
            go_wp2_with fail
            (with_reducible refine (HB2.out _).mono ?_)
            rintro e w1 ⟨rfl, rfl⟩
            have zf := (K1.out).frozen
            have z0 := (K1.out).cell 0
            have z1 := (K1.out).cell 1
            simp at z0 z1
            go_wp2_with fail
            have y := set2x (x := .string ⟨#[]⟩) (y := .string ⟨#[]⟩) K1.out
            have y0 := y.cell 0
            have y1 := y.cell 1
            simp at y0 y1
            exact bodyPost_ret (v := arV none) (by simp [results, Try.results59, go_sem, arV, y0, y1]) rfl (show RetAR w none (.returned (arV none)) _ from ⟨rfl, below_setCell (below_setCell B1.out (Nat.le_refl _) _) (Nat.le_refl _) _⟩)
      · rw [attr_none2 hn hd h61]
        have hs1 : ((61 : UInt8) == c) = false := by simpa using Ne.symm h61
        rw [hs1] at HS
        clear hn hd h61 hs1
        go_enter Try.func59, Try.ntmps59
        go_wp2_with fail
        have HK := Lib.hid (Blk.new w 51 #[.string ⟨#[]⟩, .string ⟨#[]⟩])
        have B0 := Lib.hid (bel_alloc (Below.refl w.heap.size w) (.cells #[.string ⟨#[]⟩, .string ⟨#[]⟩] 51))
        (with_reducible refine (HN.out _).mono ?_)
        rintro e w1 ⟨rfl, hb⟩
        have B1 := Lib.hid (bel_step B0.out hb)
        have K1 := Lib.hid (HK.out.below hb HK.out.lt)
        clear hb B0 HK
        go_wp2_with fail
        (with_reducible refine (HB1.out _).mono ?_)
        rintro e w1 ⟨rfl, rfl⟩
        go_wp2_with fail
        (with_reducible refine (HS.out _).mono ?_)
        rintro e w1 ⟨rfl, rfl⟩
        have zf := (K1.out).frozen
        have z0 := (K1.out).cell 0
        have z1 := (K1.out).cell 1
        simp at z0 z1
        go_wp2_with fail
        have y := set2x (x := .string ⟨#[]⟩) (y := .string ⟨#[]⟩) K1.out
        have y0 := y.cell 0
        have y1 := y.cell 1
        simp at y0 y1
        exact bodyPost_ret (v := arV none) (by simp [results, Try.results59, go_sem, arV, y0, y1]) rfl (show RetAR w none (.returned (arV none)) _ from ⟨rfl, below_setCell (below_setCell B1.out (Nat.le_refl _) _) (Nat.le_refl _) _⟩)
end Go.Proofs.Ytjmmgekildlckaa
end
section
namespace Go.Proofs.Ytjmmgekildlckaa
open Go.RowKit Go.Nst
set_option maxRecDepth 100000
set_option linter.unusedVariables false
set_option linter.unusedSimpArgs false

def upV (o : Option (List UInt8 × List UInt8)) : Value := match o with
  | none => .tuple #[.string ⟨#[]⟩, .string ⟨#[]⟩, .bool false]
  | some (a, b) => .tuple #[.string ⟨a.toArray⟩, .string ⟨b.toArray⟩, .bool true]
set_option maxHeartbeats 4000000 in
theorem refUpto8_any (l p sep : List UInt8) (w : World) (hl : l.length ≤ 1000000) (hp : p.length ≤ l.length) (hs : sep.length ≤ 1000) (hne : sep ≠ []) : Calls Try.prog 43 #[.string ⟨l.toArray⟩, .string ⟨p.toArray⟩, .string ⟨sep.toArray⟩] w fun e w' => e = .returned (upV (uptoD (l.drop p.length) sep)) ∧ ∃ m, w' = w.drewN m := by
  obtain ⟨s0, hs0⟩ : ∃ s0, ByteArray.mk l.toArray = s0 := ⟨_, rfl⟩
  obtain ⟨p0, hp0⟩ : ∃ p0, ByteArray.mk p.toArray = p0 := ⟨_, rfl⟩
  obtain ⟨q0, hq0⟩ : ∃ q0, ByteArray.mk sep.toArray = q0 := ⟨_, rfl⟩
  have hss : s0.size = l.length := by rw [← hs0, size_of]
  have hps : p0.size = p.length := by rw [← hp0, size_of]
  have hqs : q0.size = sep.length := by rw [← hq0, size_of]
  have hx1 : s0.extract p0.size s0.size = ⟨(l.drop p.length).toArray⟩ := by rw [hss, hps, ← hs0, xstr_drop]
  have HF := Lib.hid (fun W => refFind8_any (l.drop p.length) sep W (by rw [List.length_drop]; omega) (by omega) hne)
  rw [hq0] at HF
  have hup : uptoD (l.drop p.length) sep = if 0 ≤ Lib.index (l.drop p.length) sep then some ((l.drop p.length).take (Lib.index (l.drop p.length) sep).toNat, (l.drop p.length).drop ((Lib.index (l.drop p.length) sep).toNat + sep.length)) else none := by
    unfold uptoD Lib.cut
    by_cases h0 : 0 ≤ Lib.index (l.drop p.length) sep
    · simp [h0]
    · simp [h0]
  have hroom := Lib.index_room (l.drop p.length) sep
  have hz1 : s0.size ≤ 1000000 := by omega
  have hz2 : p0.size ≤ s0.size := by omega
  have hz3 : q0.size ≤ 1000 := by omega
  rcases Lib.index_spec (l.drop p.length) sep with ⟨hi, -⟩ | ⟨i, hi, hil, -, -⟩
  · rw [hi] at HF hup
    simp at hup
    rw [hup, hs0, hp0, hq0]
    clear hs0 hp0 hq0 hss hps hqs hup hroom hl hp hs hne
    go_enter Try.func43, Try.ntmps43
    go_wp2_with fail
    (with_reducible refine (HF.out _).mono ?_)
    rintro e w1 ⟨rfl, rfl⟩
    go_wp2_with fail
    go_ret3
    exact ⟨rfl, 0, rfl⟩
  · rw [hi] at HF hup hroom
    have hroom := hroom (by omega)
    rw [List.length_drop] at hroom
    simp at hup
    have hx2 : s0.extract p0.size (p0.size + i) = ⟨((l.drop p.length).take i).toArray⟩ := by
      have h1 := bl_mid s0 p0.size (p0.size + i)
      have h2 : bl s0 = l := by rw [← hs0, bl_of]
      rw [h2, Nat.add_sub_cancel_left, hps] at h1
      apply ByteArray.ext
      apply Array.ext'
      rw [hps]
      exact h1
    have hx3 : s0.extract (p0.size + i + q0.size) s0.size = ⟨(((l.drop p.length).drop (i + sep.length))).toArray⟩ := by
      rw [hss, hps, hqs, ← hs0, xstr_drop, List.drop_drop, Nat.add_assoc]
    rw [← List.drop_drop] at hup
    rw [List.drop_drop] at hup
    have hv : upV (uptoD (l.drop p.length) sep) = .tuple #[.string (s0.extract p0.size (p0.size + i)), .string (s0.extract (p0.size + i + q0.size) s0.size), .bool true] := by
      rw [hup, hx2, hx3]
      simp [upV, List.drop_drop]
    rw [hv, hs0, hp0, hq0]
    have hy : p0.size + i + q0.size ≤ s0.size := by omega
    clear hs0 hp0 hq0 hss hps hqs hup hroom hl hp hs hne hv hi hil hx2 hx3
    generalize l.drop p.length = dl at *
    have v1 : IntKind.i64.wrap ((p0.size : Int) + (i : Int)) = (p0.size : Int) + (i : Int) := IntWalk.i64_in _ (by omega)
    have v2 : IntKind.i64.wrap ((p0.size : Int) + (i : Int) + (q0.size : Int)) = (p0.size : Int) + (i : Int) + (q0.size : Int) := IntWalk.i64_in _ (by omega)
    have v3 : ((p0.size : Int) + (i : Int)).toNat = p0.size + i := by omega
    have v4 : ((p0.size : Int) + (i : Int) + (q0.size : Int)).toNat = p0.size + i + q0.size := by omega
    have v5 : (0 : Int) ≤ (p0.size : Int) + (i : Int) := by omega
    have v6 : (p0.size : Int) + (i : Int) ≤ (s0.size : Int) := by omega
    have v7 : (p0.size : Int) ≤ (p0.size : Int) + (i : Int) := by omega
    have v8 : (0 : Int) ≤ (p0.size : Int) + (i : Int) + (q0.size : Int) := by omega
    have v9 : (p0.size : Int) + (i : Int) + (q0.size : Int) ≤ (s0.size : Int) := by omega
    go_enter Try.func43, Try.ntmps43
    go_wp2_with fail
    (with_reducible refine (HF.out _).mono ?_)
    rintro e w1 ⟨rfl, rfl⟩
    go_wp2_with fail
    go_quiet (fail)
    go_wp2_with fail
    go_ret3
    exact ⟨rfl, nq, rfl⟩
def RetTS (w : World) (o : Option (List Xtk × List UInt8)) (e : Ending) (w' : World) : Prop := Below w.heap.size w w' ∧ match o with
  | some (ts, b) => ∃ A n c, e = .returned (.tuple #[.slice A n c, .string ⟨b.toArray⟩, .bool true]) ∧ XtA w' (fun b => w.heap.size ≤ b) A n ts ∧ n ≤ c ∧ c ≤ 9223372036854775807
  | none => ∃ A n c x, e = .returned (.tuple #[.slice A n c, .string x, .bool false])
/-- what holds at each round: the token's block, the row of its attributes -/
def OpR (w wr : World) (k : Nat) (n : List UInt8) (A : Option Addr) (m c : Nat) (ats : List Xat) : Prop :=
  Blk wr k 68 #[.int .i64 1, .string ⟨n.toArray⟩, .slice A m c, .string ⟨#[]⟩] ∧ XaO wr (k + 1) (fun _ => False) A m c ats ∧ w.heap.size ≤ k ∧ Below w.heap.size w wr
section
variable {w W W3 : World} {k m c c' : Nat} {n : List UInt8} {A A' : Option Addr} {ats ats' : List Xat}
theorem OpR.bel {w2 : World} (h : OpR w W k n A m c ats) (hb : Below W.heap.size W w2) : OpR w w2 k n A m c ats := ⟨h.1.below hb h.1.lt, h.2.1.bel xaP hb, h.2.2.1, bel_step h.2.2.2 hb⟩
theorem OpR.ready (h : OpR w W k n A m c ats) (a : Xat) (ha : a.nm.length ≤ 1000000 ∧ a.vl.length ≤ 1000000) {sz : Nat} (hsz : W.heap.size = sz) :
    XaO (W.alloc (.cells (xaV a) 51)) (k + 1) (fun _ => False) A m c ats ∧ XaR (W.alloc (.cells (xaV a) 51)) (fun b => False ∧ some b ≠ (Value.slice A m c).ownBlock) (some ⟨sz, 0, none⟩) 1 [a] ∧ k + 1 ≤ (W.alloc (.cells (xaV a) 51)).heap.size ∧ Blk (W.alloc (.cells (xaV a) 51)) k 68 #[.int .i64 1, .string ⟨n.toArray⟩, .slice A m c, .string ⟨#[]⟩] ∧ Below (k + 1) W (W.alloc (.cells (xaV a) 51)) := by
  subst hsz
  have B0 := bel_alloc (Below.refl W.heap.size W) (.cells (xaV a) 51)
  have hlt := h.1.lt
  exact ⟨h.2.1.bel xaP B0, RwR.blk1 (Blk.new W 51 (xaV a)) ⟨rfl, by omega, by omega⟩, by simp; omega, h.1.alloc _, B0.mono (by omega)⟩
theorem OpR.more (h : OpR w W k n A m c ats) (h3 : XaO W3 (k + 1) (fun _ => False) A' (m + 1) c' ats') (hb : Below (k + 1) W W3) : OpR w (W3.setCell ⟨k, 2, none⟩ (.slice A' (m + 1) c')) k n A' (m + 1) c' ats' := by
  have hk := h.1.below hb (by omega)
  refine ⟨by simpa using hk.set_ 2 (.slice A' (m + 1) c'), h3.grown xaP (row := some k) (only_setCell (World.grownBy.refl _ _) (.inl rfl) _) (fun g' e => ⟨fun h => h, fun e2 => by injection e with e; have := h3.lt g' e2; omega⟩), h.2.2.1, below_setCell (h.2.2.2.trans (hb.mono (by have := h.2.2.1; omega))) h.2.2.1 _⟩
theorem OpR.xt {B : Nat} (h : OpR w W k n A m c ats) (hn : n.length ≤ 100000) (hB : B ≤ k) : XtP W (fun b => B ≤ b) #[.int .i64 1, .string ⟨n.toArray⟩, .slice A m c, .string ⟨#[]⟩] ⟨1, n, ats, []⟩ := by
  have hl := h.2.1.len
  subst hl
  exact ⟨A, c, rfl, ⟨(show (-9223372036854775808 : Int) ≤ 1 by omega), (show (1 : Int) ≤ 9223372036854775807 by omega)⟩, (show n.length ≤ 9223372036854775807 by omega), by simp, h.2.1.cap.1, h.2.1.cap.2, h.2.1.qs xaP (fun b hb _ => hb.elim) (fun b hb _ => by omega)⟩
end
end Go.Proofs.Ytjmmgekildlckaa
end
