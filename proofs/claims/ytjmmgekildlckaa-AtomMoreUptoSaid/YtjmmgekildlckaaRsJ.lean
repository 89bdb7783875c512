/-
  Build and Parse of a text that is one element; the run with which each statement on feeds begins.
-/
import Derived.Test.YtjmmgekildlckaaRsI
namespace Go.Proofs.Ytjmmgekildlckaa
open Go.ChangeShapes Go.WideShapes Go.ChangeAt Go.Deep
open Go.RowKit Go.Nst
set_option maxRecDepth 100000
set_option linter.unusedVariables false
set_option linter.unusedSimpArgs false

theorem blank9_no (nm : List UInt8) (A : Option Addr) (n c : Nat) (w : World) (hn : n ≤ c) (hc : c ≤ 9223372036854775807) :
    Calls Try.prog 28 #[.agg #[.int .i64 1, .string ⟨nm.toArray⟩, .slice A n c, .string ⟨#[]⟩]] w fun e w' => e = .returned (.bool false) ∧ Below w.heap.size w w' := by
  have B0 := Lib.hid (bel_alloc (Below.refl w.heap.size w) (.cells #[.int .i64 1, .string ⟨nm.toArray⟩, .slice A n c, .string ⟨#[]⟩] 68))
  have X0 := Lib.hid (Blk.new w 68 #[.int .i64 1, .string ⟨nm.toArray⟩, .slice A n c, .string ⟨#[]⟩])
  go_enter Try.func28, Try.ntmps28
  go_wp2_with fail
  go_loopw [3] (fun i wr => i = .int .i64 0 ∧ Hid (Below w.heap.size w wr) ∧ Blk wr w.heap.size 68 #[.int .i64 1, .string ⟨nm.toArray⟩, .slice A n c, .string ⟨#[]⟩]) (fun _ _ => 0)
  case atStart => exact ⟨rfl, B0, X0.out⟩
  case round =>
    obtain ⟨rfl, HB, hX⟩ := hrel
    have HX := Lib.hid hX
    have x0 := hX.cell 0
    have x3 := hX.cell 3
    simp at x0 x3
    clear hX
    go_wp2_with fail
    go_ret
    exact ⟨rfl, HB.out⟩
set_option maxHeartbeats 4000000 in
theorem build9_any (l : List Xtk) (A : Option Addr) (n c : Nat) (w : World) (S : Nat → Prop) (E : Elm) (t : Xtk) (hA : XtA w S A n l) (hn : n ≤ c) (hc : c ≤ 9223372036854775807) (hsm : TkSm l) (h0 : l[0]? = some t) (h1 : t.kd = 1) (h2 : t.tx = []) (hE : elemD 32 l = some (E, n)) :
    Calls Try.prog 19 #[.slice A n c] w fun e w' => ∃ A1 c1 B1 d1, e = .returned (.tuple #[.agg (emV E A1 E.ats.length c1 B1 E.kids.length d1), .bool true]) ∧ EmF w' (fun b => S b ∨ w.heap.size ≤ b) E A1 c1 B1 d1 ∧ Below w.heap.size w w' := by
  have hlen := hA.len
  have hn0 : 0 < n := by
    rcases Nat.lt_or_ge 0 l.length with h | h
    · omega
    · rw [List.getElem?_eq_none h] at h0; cases h0
  have b0 := bel_alloc (Below.refl w.heap.size w) (.cells #[.string ⟨#[]⟩, .slice none 0 0, .string ⟨#[]⟩, .slice none 0 0] 25)
  have k0 := Blk.new w 25 #[.string ⟨#[]⟩, .slice none 0 0, .string ⟨#[]⟩, .slice none 0 0]
  have hA1 := (hA.wide xtP (S' := fun b => S b ∧ b < w.heap.size) (fun b h k => ⟨h, k⟩)).bel xtP b0
  obtain ⟨u, B, d, b, off, hg, rfl, hS, hbs, hP, k1, k2, k3, k4, k5, HAt, f0, f1, f2, f3⟩ := xt_at hA1 hn0
  have hut : u = t := by have := hg.out; rw [h0] at this; injection this with this; exact this.symm
  subst hut
  obtain ⟨kd, nm, ats, tx⟩ := u
  simp only at h1 h2 f0 f1 f2 f3 k1 k2 k3 k4 k5
  subst h1 h2
  have HB1 := Lib.hid (fun W => blank9_no nm B ats.length d W k4 k5)
  have HEL := Lib.hid (fun W (h : Below (w.alloc (.cells #[.string ⟨#[]⟩, .slice none 0 0, .string ⟨#[]⟩, .slice none 0 0] 25)).heap.size (w.alloc (.cells #[.string ⟨#[]⟩, .slice none 0 0, .string ⟨#[]⟩, .slice none 0 0] 25)) W) => element9_any 32 (Nat.le_refl _) l (some ⟨b, off, none⟩) n c W _ (hA1.bel xtP h) hn hc hsm)
  rw [hE] at HEL
  have B0 := Lib.hid b0
  have K0 := Lib.hid k0
  have hz : (w.alloc (.cells #[.string ⟨#[]⟩, .slice none 0 0, .string ⟨#[]⟩, .slice none 0 0] 25)).heap.size = w.heap.size + 1 := by simp
  have HZ := Lib.hid hz
  simp only [Nat.zero_mul, Nat.add_zero] at f0 f1 f2 f3
  have hlt' : decide (0 < n) = true := by simpa using hn0
  have hni : (0 : Int) < (n : Int) := by omega
  rw [show ((33 : Int) - ((32 : Nat) : Int)) = 1 by omega] at HEL
  have F0 := Lib.hid (laterE f0 hbs)
  have F1 := Lib.hid (laterE f1 hbs)
  have F2 := Lib.hid (laterE f2 hbs)
  have F3 := Lib.hid (laterE f3 hbs)
  clear hA hA1 hsm h0 hE hg hP HAt hlen b0 k0 hz hS f0 f1 f2 f3
  go_enter Try.func19, Try.ntmps19
  go_upto_region 1 with fail
  generalize w.alloc (.cells #[.string ⟨#[]⟩, .slice none 0 0, .string ⟨#[]⟩, .slice none 0 0] 25) = ws at *
  go_wp2_with fail
  go_loopw [4] (fun i wr => i = .int .i64 0 ∧ Hid (Below ws.heap.size ws wr)) (fun _ _ => 0)
  case atStart => exact ⟨rfl, Lib.hid (Below.refl _ _)⟩
  case round =>
    obtain ⟨rfl, HB⟩ := hrel
    have f0 := F0.out _ HB.out
    have f1 := F1.out _ HB.out
    have f2 := F2.out _ HB.out
    have f3 := F3.out _ HB.out
    go_wp2_with fail
    (with_reducible refine (HB1.out _).mono ?_)
    rintro _ wa ⟨rfl, hba⟩
    have HB2 := Lib.hid (bel_step HB.out hba)
    clear hba HB f0 f1 f2 f3
    go_wp2_with fail
    (with_reducible refine (HEL.out _ HB2.out).mono ?_)
    rintro _ wb ⟨E', A1, c1, B1, d1, k, rfl, hF, hk, hok, hbb⟩
    obtain ⟨rfl, rfl, -⟩ := hok E n rfl
    simp only [emV, Option.isSome_some]
    have hbe := bel_alloc hbb (.cells #[.string ⟨E.nm.toArray⟩, .slice A1 E.ats.length c1, .string ⟨E.tx.toArray⟩, .slice B1 E.kids.length d1] 25)
    have X5 := Lib.hid (Blk.new wb 25 #[.string ⟨E.nm.toArray⟩, .slice A1 E.ats.length c1, .string ⟨E.tx.toArray⟩, .slice B1 E.kids.length d1])
    have HF5 := Lib.hid (em_bel hF (bel_alloc (Below.refl wb.heap.size wb) (.cells #[.string ⟨E.nm.toArray⟩, .slice A1 E.ats.length c1, .string ⟨E.tx.toArray⟩, .slice B1 E.kids.length d1] 25)))
    have HB5 := Lib.hid (bel_step HB2.out hbe)
    have hzw : ws.heap.size ≤ wa.heap.size := HB2.out.size
    have hzb : wa.heap.size ≤ wb.heap.size := hbb.size
    obtain ⟨g5, hg5⟩ : ∃ g5, g5 = wb.heap.size := ⟨_, rfl⟩
    rw [← hg5] at X5
    obtain ⟨hca, hcb⟩ := hF.hc
    obtain ⟨hda, hdb⟩ := hF.hd
    clear hF hok hbb hbe HB2
    go_upto_region 5 with fail
    try simp only [← hg5]
    generalize wb.alloc (.cells #[.string ⟨E.nm.toArray⟩, .slice A1 E.ats.length c1, .string ⟨E.tx.toArray⟩, .slice B1 E.kids.length d1] 25) = wd at *
    have HG5 : Hid (ws.heap.size ≤ g5) := Lib.hid (by omega)
    clear hg5
    have hnn : decide (n < n) = false := by simp
    obtain ⟨wo, hwo⟩ : ∃ wo : World, wo = wd := ⟨_, rfl⟩
    subst hwo
    go_wp2_with fail
    go_loopw [4] (fun i wr => i = .int .i64 (n : Int) ∧ wr = wo) (fun _ _ => 0)
    case atStart => exact ⟨by go_num, rfl⟩
    case round =>
      obtain ⟨rfl, rfl⟩ := hrel
      have K9 := Lib.hid (K0.out.below HB5.out K0.out.lt)
      have zf := K9.out.frozen
      have z0 := K9.out.cell 0
      have z1 := K9.out.cell 1
      have z2 := K9.out.cell 2
      have z3 := K9.out.cell 3
      have u0 := X5.out.cell 0
      have u1 := X5.out.cell 1
      have u2 := X5.out.cell 2
      have u3 := X5.out.cell 3
      simp at z0 z1 z2 z3 u0 u1 u2 u3
      go_wp2_with fail
      have y := set4c K9.out rfl (.string ⟨E.nm.toArray⟩) (.slice A1 E.ats.length c1) (.string ⟨E.tx.toArray⟩) (.slice B1 E.kids.length d1)
      have y0 := y.cell 0
      have y1 := y.cell 1
      have y2 := y.cell 2
      have y3 := y.cell 3
      simp at y0 y1 y2 y3
      refine bodyPost_ret (v := .tuple #[.agg #[.string ⟨E.nm.toArray⟩, .slice A1 E.ats.length c1, .string ⟨E.tx.toArray⟩, .slice B1 E.kids.length d1], .bool true]) (by simp [results, Try.results19, go_sem, y0, y1, y2, y3]) rfl ?_
      refine ⟨A1, c1, B1, d1, rfl, em_keep (fun b hb hlt => ?_) (by simp [World.setCell]) (fun b hb _ => ?_) HF5.out, bel4c (bel_step B0.out HB5.out) (Nat.le_refl _) _ _ _ _⟩
      · have hbn : b ≠ w.heap.size := by
          have := HZ.out
          rcases hb with h | h
          · omega
          · omega
        simp [World.setCell, Array.getElem?_modify, Ne.symm hbn]
      · have := HZ.out
        rcases hb with h | h
        · exact .inl h.1
        · exact .inr (by omega)
set_option maxHeartbeats 4000000 in
theorem parse9_any (s : List UInt8) (l : List Xtk) (p : Int) (n : Nat) (w : World) (E : Elm) (t : Xtk) (hs : s.length ≤ 1000000) (ht : tokD s = (l, p, 0)) (hnl : l.length = n) (hsm : TkSm l) (h0 : l[0]? = some t) (h1 : t.kd = 1) (h2 : t.tx = []) (hE : elemD 32 l = some (E, n)) :
    Calls Try.prog 10 #[.string ⟨s.toArray⟩] w fun e w' => ∃ A1 c1 B1 d1, e = .returned (.tuple #[.agg (emV E A1 E.ats.length c1 B1 E.kids.length d1), .int .i64 0]) ∧ EmF w' (fun _ => True) E A1 c1 B1 d1 ∧ Below w.heap.size w w' := by
  have B0 := Lib.hid (bel_alloc (Below.refl w.heap.size w) (.cells #[.string ⟨#[]⟩, .slice none 0 0, .string ⟨#[]⟩, .slice none 0 0] 25))
  have K0 := Lib.hid (Blk.new w 25 #[.string ⟨#[]⟩, .slice none 0 0, .string ⟨#[]⟩, .slice none 0 0])
  have HT := Lib.hid (fun W => refTokens8_any s W hs)
  rw [ht] at HT
  have HBU := Lib.hid (fun A c W S (hA : XtA W S A n l) hn hc => build9_any l A n c W S E t hA hn hc hsm h0 h1 h2 hE)
  have HNL := Lib.hid hnl
  clear ht hsm h0 hE hnl
  go_enter Try.func10, Try.ntmps10
  go_wp2_with fail
  (with_reducible refine (HT.out _).mono ?_)
  rintro _ wa ⟨A, n', c, he, HA, hn', hc', hba⟩
  simp only at he HA
  subst he
  have hnn : n' = n := by have := HA.len; rw [← this]; exact HNL.out
  subst hnn
  have HC := Lib.hid (HBU.out A c wa _ HA hn' hc')
  have K1 := Lib.hid (K0.out.below hba K0.out.lt)
  have B1 := Lib.hid (bel_step B0.out hba)
  have hz : w.heap.size + 1 ≤ wa.heap.size := by have := hba.size; simpa using this
  have hsz : (w.alloc (.cells #[.string ⟨#[]⟩, .slice none 0 0, .string ⟨#[]⟩, .slice none 0 0] 25)).heap.size = w.heap.size + 1 := by simp
  have HSZ := Lib.hid hsz
  clear HA hba hsz
  go_wp2_with fail
  (with_reducible refine (HC.out).mono ?_)
  rintro _ wb ⟨A1, c1, B1', d1, rfl, hF, hbb⟩
  simp only [emV]
  have hbe := bel_alloc hbb (.cells #[.string ⟨E.nm.toArray⟩, .slice A1 E.ats.length c1, .string ⟨E.tx.toArray⟩, .slice B1' E.kids.length d1] 25)
  have K9 := Lib.hid (K1.out.below hbe K1.out.lt)
  have HB5 := Lib.hid (bel_step B1.out hbe)
  have HF5 := Lib.hid (em_bel hF (bel_alloc (Below.refl wb.heap.size wb) (.cells #[.string ⟨E.nm.toArray⟩, .slice A1 E.ats.length c1, .string ⟨E.tx.toArray⟩, .slice B1' E.kids.length d1] 25)))
  obtain ⟨hca, hcb⟩ := hF.hc
  obtain ⟨hda, hdb⟩ := hF.hd
  have zf := K9.out.frozen
  have z0 := K9.out.cell 0
  have z1 := K9.out.cell 1
  have z2 := K9.out.cell 2
  have z3 := K9.out.cell 3
  simp at z0 z1 z2 z3
  clear hF hbb hbe
  go_wp2_with fail
  have y := set4c K9.out rfl (.string ⟨E.nm.toArray⟩) (.slice A1 E.ats.length c1) (.string ⟨E.tx.toArray⟩) (.slice B1' E.kids.length d1)
  have y0 := y.cell 0
  have y1 := y.cell 1
  have y2 := y.cell 2
  have y3 := y.cell 3
  simp at y0 y1 y2 y3
  refine bodyPost_ret (v := .tuple #[.agg #[.string ⟨E.nm.toArray⟩, .slice A1 E.ats.length c1, .string ⟨E.tx.toArray⟩, .slice B1' E.kids.length d1], .int .i64 0]) (by simp [results, Try.results10, go_sem, y0, y1, y2, y3]) rfl ?_
  refine ⟨A1, c1, B1', d1, rfl, em_keep (fun b hb hlt => ?_) (by simp [World.setCell]) (fun b hb _ => trivial) HF5.out, bel4c HB5.out (Nat.le_refl _) _ _ _ _⟩
  have hbn : b ≠ w.heap.size := by
    have := HSZ.out
    rcases hb with h | h <;> omega
  simp [World.setCell, Array.getElem?_modify, Ne.symm hbn]
end Go.Proofs.Ytjmmgekildlckaa
