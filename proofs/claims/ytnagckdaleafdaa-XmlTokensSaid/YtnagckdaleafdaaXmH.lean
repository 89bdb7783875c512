/-
  The reader's attr; named.
-/
import Derived.Test.YtnagckdaleafdaaXmG
namespace Go.Proofs.Ytnagckdaleafdaa
open Go.RowKit Go.Nst
set_option maxRecDepth 100000
set_option linter.unusedVariables false
set_option linter.unusedSimpArgs false

def cAttr3 (s : XS) : XS := cBlank (cMust [61] (cBlank (cName s).2))
def cAttr (s : XS) : Xat × XS := if (cAttr3 s).2 = true then (⟨(cName s).1, []⟩, cAttr3 s) else (⟨(cName s).1, (cValue (cAttr3 s)).1⟩, (cValue (cAttr3 s)).2)
def RetXA (w : World) (g : Nat) (r : Xat × XS) (e : Ending) (w' : World) : Prop := e = .returned (.agg (xaV r.1)) ∧ XrB w' g r.2.1 r.2.2 ∧ w.grownBy w' (some g)
theorem grown_alloc {a b : World} {r : Option Nat} (h : a.grownBy b r) (o : Obj) : a.grownBy (b.alloc o) r := grown_two h (only_of_below (bel_alloc (Below.refl _ _) o) r)
theorem grown_set {a b : World} {g k : Nat} (h : a.grownBy b (some g)) (hk : a.heap.size ≤ k) (j : Nat) (v : Value) : a.grownBy (b.setCell ⟨k, j, none⟩ v) (some g) := only_setCell h (.inr hk) v
theorem set2x {w : World} {k : Nat} {t : TypeId} {a b x y : Value} (h : Blk w k t #[a, b]) : Blk ((w.setCell ⟨k, 0, none⟩ x).setCell ⟨k, 1, none⟩ y) k t #[x, y] := by simpa using (h.set_ 0 x).set_ 1 y
theorem attr_end {w w4 : World} {g : Nat} {rr : Xat × XS} {n v : List UInt8} {l : List UInt8} {b : Bool} (hA : rr = (⟨n, v⟩, (l, b))) (hg : g < w.heap.size) (h : XrB w4 g l b) (h2 : w.grownBy w4 (some g)) :
    RetXA w g rr (.returned (.agg #[.string ⟨n.toArray⟩, .string ⟨v.toArray⟩])) ((w4.setCell ⟨w.heap.size, 0, none⟩ (.string ⟨n.toArray⟩)).setCell ⟨w.heap.size, 1, none⟩ (.string ⟨v.toArray⟩)) := by
  subst hA
  exact ⟨rfl, (h.far (by simp; omega) _).far (by simp; omega) _, grown_set (grown_set h2 (Nat.le_refl _) 0 _) (Nat.le_refl _) 1 _⟩
set_option maxHeartbeats 4000000 in
theorem attr8_any (g : Nat) (s : XS) (w : World) (hB : XrB w g s.1 s.2) (hl : s.1.length ≤ 100000) (hM : ML w) :
    Calls Try.prog 60 #[.pointer (some ⟨g, 0, none⟩)] w (RetXA w g (cAttr s)) := by
  have hg := Blk.lt hB
  have HC1 := Lib.hid (fun (W : World) (h : XrB W g s.1 s.2) => name8_any g s W h (by omega))
  have l1 := (cName_len s).1
  have hc3 : cAttr3 s = cBlank (cMust [61] (cBlank (cName s).2)) := rfl
  have hA : cAttr s = if (cAttr3 s).2 = true then (⟨(cName s).1, []⟩, cAttr3 s) else (⟨(cName s).1, (cValue (cAttr3 s)).1⟩, (cValue (cAttr3 s)).2) := rfl
  generalize cAttr s = rr at *
  generalize cAttr3 s = s5 at *
  generalize cName s = r at *
  obtain ⟨n, s2⟩ := r
  simp only at *
  have HC2 := Lib.hid (fun (W : World) (h : XrB W g s2.1 s2.2) => blank8_any g s2 W h (by omega))
  have l2 := cBlank_len s2
  generalize (!(s2.1.takeWhile blkB).isEmpty) = q2 at *
  generalize cBlank s2 = s3 at *
  have HC3 := Lib.hid (fun (W : World) (h : XrB W g s3.1 s3.2) => must8_any g [61] s3 W h)
  have l3 := cMust_len [61] s3
  generalize cMust [61] s3 = s4 at *
  have HC4 := Lib.hid (fun (W : World) (h : XrB W g s4.1 s4.2) => blank8_any g s4 W h (by omega))
  have l4 := cBlank_len s4
  generalize (!(s4.1.takeWhile blkB).isEmpty) = q4 at *
  rw [← hc3] at HC4 l4
  clear hc3
  have HC5 := Lib.hid (fun (W : World) (h : XrB W g s5.1 s5.2) (h2 : ML W) => value8_any g s5 W h (by omega) h2)
  generalize cValue s5 = v at *
  obtain ⟨l5, b5⟩ := s5
  cases b5 with
  | true =>
    have HA : Hid (rr = (⟨n, []⟩, (l5, true))) := Lib.hid (by rw [hA]; rfl)
    clear hA
    have HB := Lib.hid hB
    have HM := Lib.hid hM
    clear hB hM
    go_enter Try.func60, Try.ntmps60
    go_wp2_with fail
    have h0 := HB.out.alloc (.cells #[.string ⟨#[]⟩, .string ⟨#[]⟩] 39)
    have HR := Blk.new w 39 #[.string ⟨#[]⟩, .string ⟨#[]⟩]
    have m0 := ML.below HM.out (bel_alloc (Below.refl _ _) (.cells #[.string ⟨#[]⟩, .string ⟨#[]⟩] 39))
    have g0 := grown_alloc (World.grownBy.refl w (some g)) (.cells #[.string ⟨#[]⟩, .string ⟨#[]⟩] 39)
    have HC1' := Lib.hid (HC1.out _ h0)
    have F0 := Lib.hid (And.intro h0 (And.intro HR (And.intro m0 g0)))
    clear HC1 h0 HR m0 g0
    (with_reducible refine (HC1'.out).mono ?_)
    rintro e w1 ⟨rfl, h1, h2⟩
    have hsz1 := h2.size
    simp at hsz1
    have h1' := h1.alloc (.cells #[.string ⟨n.toArray⟩, .string ⟨#[]⟩] 39)
    have r1 := (Blk.grown F0.out.2.1 h2 (by simp; omega)).alloc (.cells #[.string ⟨n.toArray⟩, .string ⟨#[]⟩] 39)
    have a1 := Blk.new w1 39 #[.string ⟨n.toArray⟩, .string ⟨#[]⟩]
    have m1 := ML.below (F0.out.2.2.1.xr F0.out.1 h2) (bel_alloc (Below.refl _ _) (.cells #[.string ⟨n.toArray⟩, .string ⟨#[]⟩] 39))
    have g1 := grown_alloc (grown_two F0.out.2.2.2 h2) (.cells #[.string ⟨n.toArray⟩, .string ⟨#[]⟩] 39)
    have HC2' := Lib.hid (HC2.out _ h1')
    obtain ⟨k, hk⟩ : ∃ k, w1.heap.size = k := ⟨_, rfl⟩
    rw [hk] at a1 hsz1
    have F1 := Lib.hid (And.intro h1' (And.intro r1 (And.intro a1 (And.intro m1 g1))))
    clear HC2 h1 h2 h1' r1 a1 m1 g1 F0 HC1'
    go_wp2_with fail
    (with_reducible refine (HC2'.out).mono ?_)
    rintro e w2 ⟨rfl, h1, h2⟩
    have F2 := Lib.hid (And.intro h1 (And.intro (Blk.grown F1.out.2.1 h2 (by simp; omega)) (And.intro (Blk.grown F1.out.2.2.1 h2 (by simp; omega)) (And.intro (F1.out.2.2.2.1.xr F1.out.1 h2) (grown_two F1.out.2.2.2.2 h2)))))
    have HC3' := Lib.hid (HC3.out _ h1)
    clear HC3 HC2' F1 h1 h2
    go_wp2_with fail
    (with_reducible refine (HC3'.out).mono ?_)
    rintro e w3 ⟨rfl, h1, h2⟩
    have F3 := Lib.hid (And.intro h1 (And.intro (Blk.grown F2.out.2.1 h2 (by simp; omega)) (And.intro (Blk.grown F2.out.2.2.1 h2 (by simp; omega)) (And.intro (F2.out.2.2.2.1.xr F2.out.1 h2) (grown_two F2.out.2.2.2.2 h2)))))
    have HC4' := Lib.hid (HC4.out _ h1)
    clear HC4 HC3' F2 h1 h2
    go_wp2_with fail
    (with_reducible refine (HC4'.out).mono ?_)
    rintro e w4 ⟨rfl, h1, h2⟩
    have F4 := Lib.hid (And.intro h1 (And.intro (Blk.grown F3.out.2.1 h2 (by simp; omega)) (And.intro (Blk.grown F3.out.2.2.1 h2 (by simp; omega)) (And.intro (F3.out.2.2.2.1.xr F3.out.1 h2) (grown_two F3.out.2.2.2.2 h2)))))
    have c1 := Blk.cell h1 1
    simp at c1
    have f0 := F4.out.2.1.frozen
    have x0 := F4.out.2.2.1.cell 0
    have x1 := F4.out.2.2.1.cell 1
    simp at x0 x1
    have z0 := F4.out.2.1.cell 0
    have z1 := F4.out.2.1.cell 1
    simp at z0 z1
    clear HC4' F3 h1 h2
    go_wp2_with fail
    have y := set2x (x := .string ⟨n.toArray⟩) (y := .string ⟨#[]⟩) F4.out.2.1
    have y0 := y.cell 0
    have y1 := y.cell 1
    simp at y0 y1
    exact bodyPost_ret (v := .agg #[.string ⟨n.toArray⟩, .string ⟨#[]⟩]) (by simp [results, Try.results60, go_sem, y0, y1]) rfl (attr_end (v := []) HA.out hg F4.out.1 F4.out.2.2.2.2)
  | false =>
    have HA : Hid (rr = (⟨n, v.1⟩, v.2)) := Lib.hid (by rw [hA]; rfl)
    clear hA
    have HB := Lib.hid hB
    have HM := Lib.hid hM
    clear hB hM
    go_enter Try.func60, Try.ntmps60
    go_wp2_with fail
    have h0 := HB.out.alloc (.cells #[.string ⟨#[]⟩, .string ⟨#[]⟩] 39)
    have HR := Blk.new w 39 #[.string ⟨#[]⟩, .string ⟨#[]⟩]
    have m0 := ML.below HM.out (bel_alloc (Below.refl _ _) (.cells #[.string ⟨#[]⟩, .string ⟨#[]⟩] 39))
    have g0 := grown_alloc (World.grownBy.refl w (some g)) (.cells #[.string ⟨#[]⟩, .string ⟨#[]⟩] 39)
    have HC1' := Lib.hid (HC1.out _ h0)
    have F0 := Lib.hid (And.intro h0 (And.intro HR (And.intro m0 g0)))
    clear HC1 h0 HR m0 g0
    (with_reducible refine (HC1'.out).mono ?_)
    rintro e w1 ⟨rfl, h1, h2⟩
    have hsz1 := h2.size
    simp at hsz1
    have h1' := h1.alloc (.cells #[.string ⟨n.toArray⟩, .string ⟨#[]⟩] 39)
    have r1 := (Blk.grown F0.out.2.1 h2 (by simp; omega)).alloc (.cells #[.string ⟨n.toArray⟩, .string ⟨#[]⟩] 39)
    have a1 := Blk.new w1 39 #[.string ⟨n.toArray⟩, .string ⟨#[]⟩]
    have m1 := ML.below (F0.out.2.2.1.xr F0.out.1 h2) (bel_alloc (Below.refl _ _) (.cells #[.string ⟨n.toArray⟩, .string ⟨#[]⟩] 39))
    have g1 := grown_alloc (grown_two F0.out.2.2.2 h2) (.cells #[.string ⟨n.toArray⟩, .string ⟨#[]⟩] 39)
    have HC2' := Lib.hid (HC2.out _ h1')
    obtain ⟨k, hk⟩ : ∃ k, w1.heap.size = k := ⟨_, rfl⟩
    rw [hk] at a1 hsz1
    have F1 := Lib.hid (And.intro h1' (And.intro r1 (And.intro a1 (And.intro m1 g1))))
    clear HC2 h1 h2 h1' r1 a1 m1 g1 F0 HC1'
    go_wp2_with fail
    (with_reducible refine (HC2'.out).mono ?_)
    rintro e w2 ⟨rfl, h1, h2⟩
    have F2 := Lib.hid (And.intro h1 (And.intro (Blk.grown F1.out.2.1 h2 (by simp; omega)) (And.intro (Blk.grown F1.out.2.2.1 h2 (by simp; omega)) (And.intro (F1.out.2.2.2.1.xr F1.out.1 h2) (grown_two F1.out.2.2.2.2 h2)))))
    have HC3' := Lib.hid (HC3.out _ h1)
    clear HC3 HC2' F1 h1 h2
    go_wp2_with fail
    (with_reducible refine (HC3'.out).mono ?_)
    rintro e w3 ⟨rfl, h1, h2⟩
    have F3 := Lib.hid (And.intro h1 (And.intro (Blk.grown F2.out.2.1 h2 (by simp; omega)) (And.intro (Blk.grown F2.out.2.2.1 h2 (by simp; omega)) (And.intro (F2.out.2.2.2.1.xr F2.out.1 h2) (grown_two F2.out.2.2.2.2 h2)))))
    have HC4' := Lib.hid (HC4.out _ h1)
    clear HC4 HC3' F2 h1 h2
    go_wp2_with fail
    (with_reducible refine (HC4'.out).mono ?_)
    rintro e w4 ⟨rfl, h1, h2⟩
    have F4 := Lib.hid (And.intro h1 (And.intro (Blk.grown F3.out.2.1 h2 (by simp; omega)) (And.intro (Blk.grown F3.out.2.2.1 h2 (by simp; omega)) (And.intro (F3.out.2.2.2.1.xr F3.out.1 h2) (grown_two F3.out.2.2.2.2 h2)))))
    have c1 := Blk.cell h1 1
    simp at c1
    have HC5' := Lib.hid (HC5.out _ h1 F4.out.2.2.2.1)
    clear HC4' HC5 F3 h1 h2
    go_wp2_with fail
    (with_reducible refine (HC5'.out).mono ?_)
    rintro e w5 ⟨rfl, h1, h2⟩
    have F5 := Lib.hid (And.intro h1 (And.intro (Blk.grown F4.out.2.1 h2 (by simp; omega)) (And.intro (Blk.grown F4.out.2.2.1 h2 (by simp; omega)) (grown_two F4.out.2.2.2.2 h2))))
    have f0 := F5.out.2.1.frozen
    have f1 := F5.out.2.2.1.frozen
    have x0 := F5.out.2.2.1.cell 0
    have x1 := F5.out.2.2.1.cell 1
    simp at x0 x1
    have z0 := F5.out.2.1.cell 0
    have z1 := F5.out.2.1.cell 1
    simp at z0 z1
    have hkne : k ≠ w.heap.size := by omega
    clear HC5' F4 h1 h2
    go_wp2_with fail
    have F6 := F5.out.2.1.far (p := ⟨k, 1, none⟩) (Ne.symm hkne) (.string ⟨v.1.toArray⟩)
    have y := set2x (x := .string ⟨n.toArray⟩) (y := .string ⟨v.1.toArray⟩) F6
    have y0 := y.cell 0
    have y1 := y.cell 1
    simp at y0 y1
    exact bodyPost_ret (v := .agg #[.string ⟨n.toArray⟩, .string ⟨v.1.toArray⟩]) (by simp [results, Try.results60, go_sem, y0, y1]) rfl (attr_end (l := v.2.1) (b := v.2.2) HA.out hg (F5.out.1.far (by simp; omega) _) (grown_set F5.out.2.2.2 (by omega) 1 _))
end Go.Proofs.Ytnagckdaleafdaa
