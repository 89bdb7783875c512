/-
  Queries' texts and what they lean on, part 27: only what the claims need.
-/
import Derived.Test.YtjjlmkleidbmhaaGreatDoorZ26
import Derived.Test.YtjjlmkleidbmhaaGreatDoorZ18
import Derived.Test.YtjjlmkleidbmhaaGreatDoorZ14
section
namespace Go.Proofs.YtjjlmkleidbmhaaGreatDoor
open Go.ChangeShapes Go.WideShapes Go.ChangeAt Go.Deep
open Go.RowKit Go.Nst
set_option maxRecDepth 100000
set_option linter.unusedVariables false
set_option linter.unusedSimpArgs false

/-- what whole hands back -/
def RetWh (w : World) (g : Nat) (en : Int) (r : Rs) (e : Ending) (w' : World) : Prop := w.grownBy w' (some g) ∧ match r with
  | .ok q [] => ∃ vs, e = .returned (.tuple #[.agg vs, .int .i64 en, .bool true]) ∧ QAt w' (fun b => w.heap.size ≤ b) vs q
  | .ok _ (p :: t) => e = .returned (.tuple #[.agg #[.int .i64 0, .int .i64 0, .string ⟨#[]⟩, .slice none 0 0], .int .i64 (posD en (p :: t)), .bool false])
  | .bad r => e = .returned (.tuple #[.agg #[.int .i64 0, .int .i64 0, .string ⟨#[]⟩, .slice none 0 0], .int .i64 (posD en r), .bool false])
/-- the worlds at whole's start -/
abbrev whW (w : World) : World := ((w.alloc (.cells #[.int .i64 0, .int .i64 0, .string ⟨#[]⟩, .slice none 0 0] 25)).alloc (.cells #[.int .i64 0] 3)).alloc (.cells #[.bool false] 4)
theorem wh_bel (w : World) : Below w.heap.size w (whW w) := bel_alloc (bel_alloc (bel_alloc (Below.refl _ _) _) _) _
theorem wh_size (w : World) : (whW w).heap.size = w.heap.size + 3 := by simp
/-- what is laid where it can not go on -/
abbrev whE (w : World) (R : Nat) (z : Int) : World := ((((((w.setCell ⟨R, 0, none⟩ (.int .i64 0)).setCell ⟨R, 1, none⟩ (.int .i64 0)).setCell ⟨R, 2, none⟩ (.string ⟨#[]⟩)).setCell ⟨R, 3, none⟩ (.slice none 0 0)).setCell ⟨R + 1, 0, none⟩ (.int .i64 z)).setCell ⟨R + 2, 0, none⟩ (.bool false))
theorem whE_grown {w0 w : World} {g R : Nat} (h : w0.grownBy w (some g)) (hR : w0.heap.size ≤ R) (z : Int) : w0.grownBy (whE w R z) (some g) :=
  only_setCell (p := ⟨R + 2, 0, none⟩) (only_setCell (p := ⟨R + 1, 0, none⟩) (grown_set4 h (.inr hR) _ _ _ _) (.inr (by show w0.heap.size ≤ R + 1; omega)) _) (.inr (by show w0.heap.size ≤ R + 2; omega)) _
set_option maxHeartbeats 2000000 in
theorem whole26_bad (r : List Pt) (w : World) (g : Nat) (en : Int) (hg : g < w.heap.size) (HC : Calls Tryz.prog 32 #[.pointer (some ⟨g, 0, none⟩)] (whW w) fun e w' => e = .panicked (brk en r) ∧ (whW w).grownBy w' (some g)) :
    Calls Tryz.prog 18 #[.pointer (some ⟨g, 0, none⟩)] w (RetWh w g en (.bad r)) := by
  have hmf : ∀ (fn : Fn) (first cap : Array Value) (w : World), (Instr.makeFunc fn first cap).run Tryz.prog w = .ok (.func fn first cap) w := fun _ _ _ _ => rfl
  have HCC := Lib.hid HC
  have X0 := Lib.hid (((Blk.new w 25 #[.int .i64 0, .int .i64 0, .string ⟨#[]⟩, .slice none 0 0]).alloc (.cells #[.int .i64 0] 3)).alloc (.cells #[.bool false] 4))
  have X1 : Hid (Blk (whW w) (w.heap.size + 1) 3 #[.int .i64 0]) := Lib.hid (by
    have h := (Blk.new (w.alloc (.cells #[.int .i64 0, .int .i64 0, .string ⟨#[]⟩, .slice none 0 0] 25)) 3 #[.int .i64 0]).alloc (.cells #[.bool false] 4)
    rwa [show (w.alloc (.cells #[.int .i64 0, .int .i64 0, .string ⟨#[]⟩, .slice none 0 0] 25)).heap.size = w.heap.size + 1 by simp] at h)
  have X2 : Hid (Blk (whW w) (w.heap.size + 2) 4 #[.bool false]) := Lib.hid (by
    have h := Blk.new ((w.alloc (.cells #[.int .i64 0, .int .i64 0, .string ⟨#[]⟩, .slice none 0 0] 25)).alloc (.cells #[.int .i64 0] 3)) 4 #[.bool false]
    rwa [show ((w.alloc (.cells #[.int .i64 0, .int .i64 0, .string ⟨#[]⟩, .slice none 0 0] 25)).alloc (.cells #[.int .i64 0] 3)).heap.size = w.heap.size + 2 by simp] at h)
  go_enter_defers Tryz.func18, Tryz.ntmps18
  go_wp2_with fail
  (with_reducible refine (HCC.out).mono ?_)
  rintro _ w1 ⟨rfl, hw⟩
  have x0 := X0.out.grown hw (by simp; omega)
  have x1 := X1.out.grown hw (by simp; omega)
  have x2 := X2.out.grown hw (by simp; omega)
  refine leaves_cons (f := 31) (args := #[.pointer (some ⟨w.heap.size, 0, none⟩), .pointer (some ⟨w.heap.size + 1, 0, none⟩), .pointer (some ⟨w.heap.size + 2, 0, none⟩)]) (by simp) (by simp [go_sem]) ?_
  refine (catch26_yes w.heap.size (w.heap.size + 1) (w.heap.size + 2) (posD en r) 0 false w1 _ _ _ _ x0 (x1.cell 0) (x2.cell 0) (x1.frozen 0) (x2.frozen 0) (by omega) (by omega) (by omega)).mono ?_
  rintro e u' w'' ⟨rfl, rfl, hw2⟩
  have y := (((set4 x0 (.int .i64 0) (.int .i64 0) (.string ⟨#[]⟩) (.slice none 0 0)).far (p := ⟨w.heap.size + 1, 0, none⟩) (by simp) (.int .i64 (posD en r))).far (p := ⟨w.heap.size + 2, 0, none⟩) (by simp) (.bool false))
  have y1 := (((((x1.far (p := ⟨w.heap.size, 0, none⟩) (by simp) (.int .i64 0)).far (p := ⟨w.heap.size, 1, none⟩) (by simp) (.int .i64 0)).far (p := ⟨w.heap.size, 2, none⟩) (by simp) (.string ⟨#[]⟩)).far (p := ⟨w.heap.size, 3, none⟩) (by simp) (.slice none 0 0)).set_ 0 (.int .i64 (posD en r))).far (p := ⟨w.heap.size + 2, 0, none⟩) (by simp) (.bool false)
  have y2 := (((((x2.far (p := ⟨w.heap.size, 0, none⟩) (by simp) (.int .i64 0)).far (p := ⟨w.heap.size, 1, none⟩) (by simp) (.int .i64 0)).far (p := ⟨w.heap.size, 2, none⟩) (by simp) (.string ⟨#[]⟩)).far (p := ⟨w.heap.size, 3, none⟩) (by simp) (.slice none 0 0)).far (p := ⟨w.heap.size + 1, 0, none⟩) (by simp) (.int .i64 (posD en r))).set_ 0 (.bool false)
  rw [← hw2] at y y1 y2
  have e0 := y.cell 0
  have e1 := y.cell 1
  have e2 := y.cell 2
  have e3 := y.cell 3
  have e4 := y1.cell 0
  have e5 := y2.cell 0
  simp at e0 e1 e2 e3 e4 e5
  have HG : w.grownBy w'' (some g) := by
    rw [hw2]
    exact whE_grown (grown_trans (grown_of (wh_bel w)) hw) (Nat.le_refl _) _
  clear hw2
  simp only [Leaves, settle, List.dropWhile_nil]
  exact ⟨.tuple #[.agg #[.int .i64 0, .int .i64 0, .string ⟨#[]⟩, .slice none 0 0], .int .i64 (posD en r), .bool false], by simp [results, Tryz.results18, go_sem, e0, e1, e2, e3, e4, e5], HG, rfl⟩
set_option maxHeartbeats 4000000 in
theorem whole26_more (q : Qy) (p : Pt) (t : List Pt) (w : World) (g : Nat) (S : Nat → Prop) (en : Int) (hg : g < w.heap.size) (HC : Calls Tryz.prog 32 #[.pointer (some ⟨g, 0, none⟩)] (whW w) (RetPr (whW w) g (lowS S w) en (.ok q (p :: t)))) :
    Calls Tryz.prog 18 #[.pointer (some ⟨g, 0, none⟩)] w (RetWh w g en (.ok q (p :: t))) := by
  have hmf : ∀ (fn : Fn) (first cap : Array Value) (w : World), (Instr.makeFunc fn first cap).run Tryz.prog w = .ok (.func fn first cap) w := fun _ _ _ _ => rfl
  have HCC := Lib.hid HC
  have X0 := Lib.hid (((Blk.new w 25 #[.int .i64 0, .int .i64 0, .string ⟨#[]⟩, .slice none 0 0]).alloc (.cells #[.int .i64 0] 3)).alloc (.cells #[.bool false] 4))
  have X1 : Hid (Blk (whW w) (w.heap.size + 1) 3 #[.int .i64 0]) := Lib.hid (by
    have h := (Blk.new (w.alloc (.cells #[.int .i64 0, .int .i64 0, .string ⟨#[]⟩, .slice none 0 0] 25)) 3 #[.int .i64 0]).alloc (.cells #[.bool false] 4)
    rwa [show (w.alloc (.cells #[.int .i64 0, .int .i64 0, .string ⟨#[]⟩, .slice none 0 0] 25)).heap.size = w.heap.size + 1 by simp] at h)
  have X2 : Hid (Blk (whW w) (w.heap.size + 2) 4 #[.bool false]) := Lib.hid (by
    have h := Blk.new ((w.alloc (.cells #[.int .i64 0, .int .i64 0, .string ⟨#[]⟩, .slice none 0 0] 25)).alloc (.cells #[.int .i64 0] 3)) 4 #[.bool false]
    rwa [show ((w.alloc (.cells #[.int .i64 0, .int .i64 0, .string ⟨#[]⟩, .slice none 0 0] 25)).alloc (.cells #[.int .i64 0] 3)).heap.size = w.heap.size + 2 by simp] at h)
  go_enter_defers Tryz.func18, Tryz.ntmps18
  go_wp2_with fail
  (with_reducible refine (HCC.out).mono ?_)
  rintro _ w1 ⟨vs, A1, n1, c1, rfl, hq, hp1, hw⟩
  have x0 := X0.out.grown hw (by simp; omega)
  have x1 := X1.out.grown hw (by simp; omega)
  have x2 := X2.out.grown hw (by simp; omega)
  have HX0 := Lib.hid x0
  have HX1 := Lib.hid x1
  have HX2 := Lib.hid x2
  have HG1 := Lib.hid (grown_trans (grown_of (g := g) (wh_bel w)) hw)
  have hws := hw.size
  rw [wh_size] at hws
  obtain ⟨QA, qc, rfl, -, -, -, -, -, -⟩ := hq.open_
  simp only [qV]
  obtain ⟨k0, k1, k2, k3, k4, k5⟩ := res_facts x0
  have g2 := grown4 w1 w.heap.size (.int .i64 q.op) (.int .i64 q.n) (.string ⟨q.s.toArray⟩) (.slice QA q.kids.length qc)
  have hp2 := (hp1.keepR g2 (by omega) (fun h => Nat.lt_irrefl _ h.2))
  have HFL := Lib.hid (fail26_any _ g _ (p :: t) en A1 n1 c1 hp2)
  have q0 := hp2.blk.cell 0
  simp at q0
  have hl := hp1.row.len
  have hn1 : 0 < n1 := by simp at hl; omega
  have hcc := hp1.cap
  have HX0' := Lib.hid (set4 x0 (.int .i64 q.op) (.int .i64 q.n) (.string ⟨q.s.toArray⟩) (.slice QA q.kids.length qc))
  have HX1' := Lib.hid (x1.grown g2 (by simp))
  have HX2' := Lib.hid (x2.grown g2 (by simp))
  have HG2 := Lib.hid (grown_set4 HG1.out (.inr (Nat.le_refl _)) (.int .i64 q.op) (.int .i64 q.n) (.string ⟨q.s.toArray⟩) (.slice QA q.kids.length qc))
  clear hq hp1 hp2 hw x0 x1 x2 g2 hl
  go_wp2_with fail
  (with_reducible refine (HFL.out).mono ?_)
  rintro _ w6 ⟨rfl, hw6⟩
  obtain rfl := hw6.symm
  have x0 := HX0'.out
  have x1 := HX1'.out
  have x2 := HX2'.out
  simp only [List.setIfInBounds_toArray, List.set_cons_zero, List.set_cons_succ] at x0
  refine leaves_cons (f := 31) (args := #[.pointer (some ⟨w.heap.size, 0, none⟩), .pointer (some ⟨w.heap.size + 1, 0, none⟩), .pointer (some ⟨w.heap.size + 2, 0, none⟩)]) (by simp) (by simp [go_sem]) ?_
  refine (catch26_yes w.heap.size (w.heap.size + 1) (w.heap.size + 2) (posD en (p :: t)) 0 false _ _ _ _ _ x0 (x1.cell 0) (x2.cell 0) (x1.frozen 0) (x2.frozen 0) (by omega) (by omega) (by omega)).mono ?_
  rintro e u' w'' ⟨rfl, rfl, hw2⟩
  have y := (((set4 x0 (.int .i64 0) (.int .i64 0) (.string ⟨#[]⟩) (.slice none 0 0)).far (p := ⟨w.heap.size + 1, 0, none⟩) (by simp) (.int .i64 (posD en (p :: t)))).far (p := ⟨w.heap.size + 2, 0, none⟩) (by simp) (.bool false))
  have y1 := (((((x1.far (p := ⟨w.heap.size, 0, none⟩) (by simp) (.int .i64 0)).far (p := ⟨w.heap.size, 1, none⟩) (by simp) (.int .i64 0)).far (p := ⟨w.heap.size, 2, none⟩) (by simp) (.string ⟨#[]⟩)).far (p := ⟨w.heap.size, 3, none⟩) (by simp) (.slice none 0 0)).set_ 0 (.int .i64 (posD en (p :: t)))).far (p := ⟨w.heap.size + 2, 0, none⟩) (by simp) (.bool false)
  have y2 := (((((x2.far (p := ⟨w.heap.size, 0, none⟩) (by simp) (.int .i64 0)).far (p := ⟨w.heap.size, 1, none⟩) (by simp) (.int .i64 0)).far (p := ⟨w.heap.size, 2, none⟩) (by simp) (.string ⟨#[]⟩)).far (p := ⟨w.heap.size, 3, none⟩) (by simp) (.slice none 0 0)).far (p := ⟨w.heap.size + 1, 0, none⟩) (by simp) (.int .i64 (posD en (p :: t)))).set_ 0 (.bool false)
  rw [← hw2] at y y1 y2
  have e0 := y.cell 0
  have e1 := y.cell 1
  have e2 := y.cell 2
  have e3 := y.cell 3
  have e4 := y1.cell 0
  have e5 := y2.cell 0
  simp at e0 e1 e2 e3 e4 e5
  have HG : w.grownBy w'' (some g) := by
    rw [hw2]
    exact whE_grown HG2.out (Nat.le_refl _) _
  clear hw2
  simp only [Leaves, settle, List.dropWhile_nil]
  exact ⟨.tuple #[.agg #[.int .i64 0, .int .i64 0, .string ⟨#[]⟩, .slice none 0 0], .int .i64 (posD en (p :: t)), .bool false], by simp [results, Tryz.results18, go_sem, e0, e1, e2, e3, e4, e5], HG, rfl⟩
set_option maxHeartbeats 4000000 in
theorem whole26_ok (q : Qy) (w : World) (g : Nat) (S : Nat → Prop) (en : Int) (hg : g < w.heap.size) (HC : Calls Tryz.prog 32 #[.pointer (some ⟨g, 0, none⟩)] (whW w) (RetPr (whW w) g (lowS S w) en (.ok q []))) :
    Calls Tryz.prog 18 #[.pointer (some ⟨g, 0, none⟩)] w (RetWh w g en (.ok q [])) := by
  have hmf : ∀ (fn : Fn) (first cap : Array Value) (w : World), (Instr.makeFunc fn first cap).run Tryz.prog w = .ok (.func fn first cap) w := fun _ _ _ _ => rfl
  have HCC := Lib.hid HC
  have X0 := Lib.hid (((Blk.new w 25 #[.int .i64 0, .int .i64 0, .string ⟨#[]⟩, .slice none 0 0]).alloc (.cells #[.int .i64 0] 3)).alloc (.cells #[.bool false] 4))
  have X1 : Hid (Blk (whW w) (w.heap.size + 1) 3 #[.int .i64 0]) := Lib.hid (by
    have h := (Blk.new (w.alloc (.cells #[.int .i64 0, .int .i64 0, .string ⟨#[]⟩, .slice none 0 0] 25)) 3 #[.int .i64 0]).alloc (.cells #[.bool false] 4)
    rwa [show (w.alloc (.cells #[.int .i64 0, .int .i64 0, .string ⟨#[]⟩, .slice none 0 0] 25)).heap.size = w.heap.size + 1 by simp] at h)
  have X2 : Hid (Blk (whW w) (w.heap.size + 2) 4 #[.bool false]) := Lib.hid (by
    have h := Blk.new ((w.alloc (.cells #[.int .i64 0, .int .i64 0, .string ⟨#[]⟩, .slice none 0 0] 25)).alloc (.cells #[.int .i64 0] 3)) 4 #[.bool false]
    rwa [show ((w.alloc (.cells #[.int .i64 0, .int .i64 0, .string ⟨#[]⟩, .slice none 0 0] 25)).alloc (.cells #[.int .i64 0] 3)).heap.size = w.heap.size + 2 by simp] at h)
  go_enter_defers Tryz.func18, Tryz.ntmps18
  go_wp2_with fail
  (with_reducible refine (HCC.out).mono ?_)
  rintro _ w1 ⟨vs, A1, n1, c1, rfl, hq, hp1, hw⟩
  have x0 := X0.out.grown hw (by simp; omega)
  have x1 := X1.out.grown hw (by simp; omega)
  have x2 := X2.out.grown hw (by simp; omega)
  have HG1 := Lib.hid (grown_trans (grown_of (g := g) (wh_bel w)) hw)
  have hws := hw.size
  rw [wh_size] at hws
  have hqw : QAt w1 (fun b => w.heap.size + 3 ≤ b) vs q := hq.wide (fun b hb _ => by rw [wh_size] at hb; exact hb)
  obtain ⟨QA, qc, rfl, -, -, -, -, -, -⟩ := hq.open_
  simp only [qV] at hqw ⊢
  obtain ⟨k0, k1, k2, k3, k4, k5⟩ := res_facts x0
  have g2 := grown4 w1 w.heap.size (.int .i64 q.op) (.int .i64 q.n) (.string ⟨q.s.toArray⟩) (.slice QA q.kids.length qc)
  have hp2 := (hp1.keepR g2 (by omega) (fun h => Nat.lt_irrefl _ h.2))
  have q0 := hp2.blk.cell 0
  have q1 := hp2.blk.cell 1
  simp at q0 q1
  have hl := hp1.row.len
  obtain rfl : n1 = 0 := by simpa using hl.symm
  have hcc := hp1.cap
  have HQ2 := Lib.hid (hqw.set4 (g := w.heap.size) (by omega) (.int .i64 q.op) (.int .i64 q.n) (.string ⟨q.s.toArray⟩) (.slice QA q.kids.length qc))
  have HX0' := Lib.hid (set4 x0 (.int .i64 q.op) (.int .i64 q.n) (.string ⟨q.s.toArray⟩) (.slice QA q.kids.length qc))
  have HX1' := Lib.hid (x1.grown g2 (by simp))
  have HX2' := Lib.hid (x2.grown g2 (by simp))
  have HG2 := Lib.hid (grown_set4 HG1.out (.inr (Nat.le_refl _)) (.int .i64 q.op) (.int .i64 q.n) (.string ⟨q.s.toArray⟩) (.slice QA q.kids.length qc))
  have y0 := HX1'.out.cell 0
  have y1 := HX2'.out.cell 0
  have y2 := HX1'.out.frozen
  have y3 := HX2'.out.frozen
  have y4 := HX0'.out.cell 0
  have y5 := HX0'.out.cell 1
  have y6 := HX0'.out.cell 2
  have y7 := HX0'.out.cell 3
  simp at y0 y1 y4 y5 y6 y7
  clear hq hqw hp1 hp2 hw x0 x1 x2 g2 hl
  go_wp2_with fail
  go_region
  go_wp2_with fail
  have a0 := (((set4 HX0'.out (.int .i64 q.op) (.int .i64 q.n) (.string ⟨q.s.toArray⟩) (.slice QA q.kids.length qc)).far (p := ⟨w.heap.size + 1, 0, none⟩) (by simp) (.int .i64 en)).far (p := ⟨w.heap.size + 1 + 1, 0, none⟩) (by show _ ≠ w.heap.size + 1 + 1; omega) (.bool true)).drew
  have g3 := grown4 ((((w1.setCell ⟨w.heap.size, 0, none⟩ (.int .i64 q.op)).setCell ⟨w.heap.size, 1, none⟩ (.int .i64 q.n)).setCell ⟨w.heap.size, 2, none⟩ (.string ⟨q.s.toArray⟩)).setCell ⟨w.heap.size, 3, none⟩ (.slice QA q.kids.length qc)) w.heap.size (.int .i64 q.op) (.int .i64 q.n) (.string ⟨q.s.toArray⟩) (.slice QA q.kids.length qc)
  have a1 := (((HX1'.out.grown g3 (by simp)).set_ 0 (.int .i64 en)).far (p := ⟨w.heap.size + 1 + 1, 0, none⟩) (by show _ ≠ w.heap.size + 1 + 1; omega) (.bool true)).drew
  have a2 := (((HX2'.out.grown g3 (by simp)).far (p := ⟨w.heap.size + 1, 0, none⟩) (by simp) (.int .i64 en)).set_ 0 (.bool true)).drew
  have hqz := (((HQ2.out.set4 (g := w.heap.size) (by omega) (.int .i64 q.op) (.int .i64 q.n) (.string ⟨q.s.toArray⟩) (.slice QA q.kids.length qc)).grown (only_setCell (p := ⟨w.heap.size + 1, 0, none⟩) (World.grownBy.refl _ (some (w.heap.size + 1))) (.inl rfl) (.int .i64 en)) (fun k hk hh => by injection hk with hk; omega)).grown (only_setCell (p := ⟨w.heap.size + 1 + 1, 0, none⟩) (World.grownBy.refl _ (some (w.heap.size + 1 + 1))) (.inl rfl) (.bool true)) (fun k hk hh => by injection hk with hk; omega)).bel (Below.refl _ _).drew
  have HGZ := grown_bel (B := w1.heap.size) (only_setCell (p := ⟨w.heap.size + 1 + 1, 0, none⟩) (only_setCell (p := ⟨w.heap.size + 1, 0, none⟩) (grown_set4 HG2.out (.inr (Nat.le_refl _)) (.int .i64 q.op) (.int .i64 q.n) (.string ⟨q.s.toArray⟩) (.slice QA q.kids.length qc)) (.inr (by show w.heap.size ≤ w.heap.size + 1; omega)) (.int .i64 en)) (.inr (by show w.heap.size ≤ w.heap.size + 1 + 1; omega)) (.bool true)) (Below.refl _ _).drew (by omega)
  have e0 := a0.cell 0
  have e1 := a0.cell 1
  have e2 := a0.cell 2
  have e3 := a0.cell 3
  have e4 := a1.cell 0
  have e5 := a2.cell 0
  simp at e0 e1 e2 e3 e4 e5
  refine leaves_cons (f := 31) (args := #[.pointer (some ⟨w.heap.size, 0, none⟩), .pointer (some ⟨w.heap.size + 1, 0, none⟩), .pointer (some ⟨w.heap.size + 2, 0, none⟩)]) (by simp) (by simp [go_sem]) ?_
  refine (catch26_idle w.heap.size (w.heap.size + 1) (w.heap.size + 2) _).mono ?_
  rintro e u' w'' ⟨rfl, rfl, hw2⟩
  subst hw2
  simp only [Leaves, settle]
  exact ⟨.tuple #[.agg #[.int .i64 q.op, .int .i64 q.n, .string ⟨q.s.toArray⟩, .slice QA q.kids.length qc], .int .i64 en, .bool true], by simp [results, Tryz.results18, go_sem, e0, e1, e2, e3, e4, e5], HGZ, _, rfl, hqz.wide (fun b hb _ => by omega)⟩
/-- whole, for any text's parts -/
theorem whole26_any (tm : List UInt8 → Option Qy) (HTM : TermP tm) (l : List Pt) (w : World) (g : Nat) (S : Nat → Prop) (en : Int) (A : Option Addr) (n c : Nat) (hm : l.length ≤ 600) (hp : Psr w g S l en A n c) :
    Calls Tryz.prog 18 #[.pointer (some ⟨g, 0, none⟩)] w (RetWh w g en (qryF (oneF tm l.length) l)) := by
  have hgl := hp.blk.lt
  have hp1 := (hp.wideS (S' := lowS S w) (fun b hb hlt => ⟨hb, hlt⟩) (fun hh => hp.off hh.1)).grown (wh_bel w)
  have HC := qry26_any tm HTM l.length hm l (whW w) g (lowS S w) en A n c (Nat.le_refl _) hp1
  cases hq : qryF (oneF tm l.length) l with
  | bad r =>
    rw [hq] at HC
    exact whole26_bad r w g en hgl HC
  | ok q r =>
    rw [hq] at HC
    cases r with
    | nil => exact whole26_ok q w g S en hgl HC
    | cons p t => exact whole26_more q p t w g S en hgl HC
end Go.Proofs.YtjjlmkleidbmhaaGreatDoor
end
section
namespace Go.Proofs.YtjjlmkleidbmhaaGreatDoor
open Go.ChangeShapes Go.WideShapes Go.ChangeAt Go.Deep
open Go.RowKit Go.Nst
set_option maxRecDepth 100000
set_option linter.unusedVariables false
set_option linter.unusedSimpArgs false

/-- a query, a place, what is wrong: handed back -/
def RetPs (w : World) (r : Qy × Int × Int) (e : Ending) (w' : World) : Prop := ∃ vs, e = .returned (.tuple #[.agg vs, .int .i64 r.2.1, .int .i64 r.2.2]) ∧ QAt w' (fun b => w.heap.size ≤ b) vs r.1 ∧ Below w.heap.size w w'
theorem QAt.none26 {w : World} {S : Nat → Prop} : QAt w S #[.int .i64 0, .int .i64 0, .string ⟨#[]⟩, .slice none 0 0] .zero := QAt.make (s := []) (i64P_lit (by omega)) (i64P_lit (by omega)) (by simp) ⟨Nat.le_refl _, by omega⟩ QsAt.nil
theorem psr_new (w : World) (A : Option Addr) (n c : Nat) (l : List Pt) (e : Int) (hW : QpW w) (hr : PtA w (fun _ => True) A n l) (hc : n ≤ c ∧ c ≤ 9223372036854775807) : Psr (w.alloc (.cells #[.slice A n c, .int .i64 e] 42)) w.heap.size (fun b => b < w.heap.size) l e A n c :=
  ⟨Blk.new w _ _, (hr.wide ptP (S' := fun b => b < w.heap.size) (fun b _ hlt => hlt)).bel ptP (bel_alloc (Below.refl _ _) _), hc, Nat.lt_irrefl _, fun W hW' => hW.keep ((bel_alloc (Below.refl w.heap.size w) _).trans hW')⟩
set_option maxHeartbeats 4000000 in
theorem Parse26_long (s : List UInt8) (w : World) (hs : 512 < s.length) (hs2 : s.length ≤ 9223372036854775807) : Calls Tryz.prog 9 #[.string ⟨s.toArray⟩] w (RetPs w (parD s)) := by
  have hp : parD s = (Qy.zero, 0, 3) := by
    unfold parD prsD
    rw [if_pos hs]
  rw [hp]
  have hz : (ByteArray.mk s.toArray).size = s.length := size_of s
  have d1 : decide (512 < s.length) = true := by simpa using hs
  have d2 : decide ((512 : Int) < (s.length : Int)) = true := by simp; omega
  have X0 := Lib.hid (Blk.new w 25 #[.int .i64 0, .int .i64 0, .string ⟨#[]⟩, .slice none 0 0])
  have B0 := Lib.hid (bel_alloc (Below.refl w.heap.size w) (.cells #[.int .i64 0, .int .i64 0, .string ⟨#[]⟩, .slice none 0 0] 25))
  clear hp hs
  go_enter Tryz.func9, Tryz.ntmps9
  go_wp2_with fail
  obtain ⟨y0, y1, y2, y3, -, -⟩ := res_facts X0.out
  exact bodyPost_ret (v := .tuple #[.agg #[.int .i64 0, .int .i64 0, .string ⟨#[]⟩, .slice none 0 0], .int .i64 0, .int .i64 3]) (by simp [results, Tryz.results9, go_sem, y0, y1, y2, y3]) rfl ⟨_, rfl, QAt.none26, B0.out⟩
set_option maxHeartbeats 8000000 in
theorem Parse26_short (s : List UInt8) (w : World) (hs : s.length ≤ 512) (hW : QpW w) : Calls Tryz.prog 9 #[.string ⟨s.toArray⟩] w (RetPs w (parD s)) := by
  have hz : (ByteArray.mk s.toArray).size = s.length := size_of s
  have d1 : decide (512 < s.length) = false := by simp; omega
  have d2 : decide ((512 : Int) < (s.length : Int)) = false := by simp; omega
  have X0 := Lib.hid (Blk.new w 25 #[.int .i64 0, .int .i64 0, .string ⟨#[]⟩, .slice none 0 0])
  have B0 := Lib.hid (bel_alloc (Below.refl w.heap.size w) (.cells #[.int .i64 0, .int .i64 0, .string ⟨#[]⟩, .slice none 0 0] 25))
  have HPT := Lib.hid (fun W => parts26_any s W hs)
  have hpl := pts_len s.length s 0 (Nat.le_refl _)
  have HPA := Lib.hid (fun q r (h : qryF (oneF termD (ptsL s 0).length) (ptsL s 0) = .ok q r) => parsed_ask hs h)
  have HPR : Hid (parD s = match qryF (oneF termD (ptsL s 0).length) (ptsL s 0) with
  | .bad r => (Qy.zero, posD s.length r, 250)
  | .ok q [] => if okQ q then (q, (s.length : Int), 0) else (Qy.zero, 0, 3)
  | .ok _ (p :: _) => (Qy.zero, p.p, 250)) := Lib.hid (by
    unfold parD prsD
    rw [if_neg (by omega)]
    rfl)
  have HW0 := Lib.hid (hW.keep B0.out)
  generalize parD s = res at *
  generalize ptsL s 0 = l at *
  clear hW
  go_enter Tryz.func9, Tryz.ntmps9
  go_wp2_with fail
  (with_reducible refine (HPT.out _).mono ?_)
  rintro _ w1 ⟨A, n, c, rfl, hr, hc1, hc2, hb1⟩
  have HR1 := Lib.hid (hr.wide ptP (S' := fun _ => True) (fun _ _ _ => trivial))
  have HB1 := Lib.hid (bel_step B0.out hb1)
  have HW1 := Lib.hid (HW0.out.keep hb1)
  have HX1 := Lib.hid (X0.out.below hb1 X0.out.lt)
  have hs1 := hb1.size
  simp at hs1
  clear hr hb1
  go_wp2_with fail
  have HWH := Lib.hid (whole26_any termD term26_any l _ w1.heap.size _ (s.length : Int) A n c (by omega) (psr_new w1 A n c l (s.length : Int) HW1.out HR1.out ⟨hc1, hc2⟩))
  have HB2 := Lib.hid (bel_alloc HB1.out (.cells #[.slice A n c, .int .i64 (s.length : Int)] 42))
  have HX2 := Lib.hid (HX1.out.alloc (.cells #[.slice A n c, .int .i64 (s.length : Int)] 42))
  have HW2 := Lib.hid (HW1.out.keep (bel_alloc (Below.refl _ _) (.cells #[.slice A n c, .int .i64 (s.length : Int)] 42)))
  have hw2 : (w1.alloc (.cells #[.slice A n c, .int .i64 (s.length : Int)] 42)).heap.size = w1.heap.size + 1 := by simp
  cases hq : qryF (oneF termD l.length) l with
  | bad r =>
    rw [hq] at HWH HPR
    clear hq HPA
    (with_reducible refine (HWH.out).mono ?_)
    rintro _ w3 ⟨hg3, rfl⟩
    have b3 := bel_alloc (HB2.out.trans (below_grown hg3 (by omega) (by omega))) (.cells #[.int .i64 0, .int .i64 0, .string ⟨#[]⟩, .slice none 0 0] 25)
    have HX3 := Lib.hid ((HX2.out.grown hg3 (by simp; omega)).alloc (.cells #[.int .i64 0, .int .i64 0, .string ⟨#[]⟩, .slice none 0 0] 25))
    have HB3 := Lib.hid b3
    obtain ⟨k0, k1, k2, k3, k4, k5⟩ := res_facts HX3.out
    clear b3 hg3
    go_wp2_with fail
    have y := set4 HX3.out (.int .i64 0) (.int .i64 0) (.string ⟨#[]⟩) (.slice none 0 0)
    have y0 := y.cell 0
    have y1 := y.cell 1
    have y2 := y.cell 2
    have y3 := y.cell 3
    simp at y0 y1 y2 y3
    refine bodyPost_ret (v := .tuple #[.agg #[.int .i64 0, .int .i64 0, .string ⟨#[]⟩, .slice none 0 0], .int .i64 (posD (s.length : Int) r), .int .i64 250]) (by simp [results, Tryz.results9, go_sem, y0, y1, y2, y3]) rfl ?_
    rw [HPR.out]
    exact ⟨_, rfl, QAt.none26, bel4 HB3.out (Nat.le_refl _) _ _ _ _⟩
  | ok q r =>
    rw [hq] at HWH HPR
    have HPQ := Lib.hid (HPA.out q r hq)
    clear hq HPA
    cases r with
    | cons p t =>
      (with_reducible refine (HWH.out).mono ?_)
      rintro _ w3 ⟨hg3, rfl⟩
      have b3 := bel_alloc (HB2.out.trans (below_grown hg3 (by omega) (by omega))) (.cells #[.int .i64 0, .int .i64 0, .string ⟨#[]⟩, .slice none 0 0] 25)
      have HX3 := Lib.hid ((HX2.out.grown hg3 (by simp; omega)).alloc (.cells #[.int .i64 0, .int .i64 0, .string ⟨#[]⟩, .slice none 0 0] 25))
      have HB3 := Lib.hid b3
      obtain ⟨k0, k1, k2, k3, k4, k5⟩ := res_facts HX3.out
      clear b3 hg3
      go_wp2_with fail
      have y := set4 HX3.out (.int .i64 0) (.int .i64 0) (.string ⟨#[]⟩) (.slice none 0 0)
      have y0 := y.cell 0
      have y1 := y.cell 1
      have y2 := y.cell 2
      have y3 := y.cell 3
      simp at y0 y1 y2 y3
      refine bodyPost_ret (v := .tuple #[.agg #[.int .i64 0, .int .i64 0, .string ⟨#[]⟩, .slice none 0 0], .int .i64 (posD (s.length : Int) (p :: t)), .int .i64 250]) (by simp [results, Tryz.results9, go_sem, y0, y1, y2, y3]) rfl ?_
      rw [HPR.out]
      exact ⟨_, rfl, QAt.none26, bel4 HB3.out (Nat.le_refl _) _ _ _ _⟩
    | nil =>
      (with_reducible refine (HWH.out).mono ?_)
      rintro _ w3 ⟨hg3, vs, rfl, hq3⟩
      have HQ3 := Lib.hid hq3
      obtain ⟨QB, qd, rfl, -, -, -, -, -, -⟩ := hq3.open_
      simp only [qV] at HQ3 ⊢
      have bq := bel_alloc (Below.refl w3.heap.size w3) (.cells #[.int .i64 q.op, .int .i64 q.n, .string ⟨q.s.toArray⟩, .slice QB q.kids.length qd] 25)
      have hsz3 := hg3.size
      rw [hw2] at hsz3
      have HX3 := Lib.hid ((HX2.out.grown hg3 (by simp; omega)).below bq (by omega))
      have HB3 := Lib.hid ((HB2.out.trans (below_grown hg3 (by omega) (by omega))).trans (bq.mono (by omega)))
      have HY3 := Lib.hid (Blk.new w3 25 #[.int .i64 q.op, .int .i64 q.n, .string ⟨q.s.toArray⟩, .slice QB q.kids.length qd])
      have HQ4 := Lib.hid (HQ3.out.bel bq)
      have HCK := Lib.hid (Check25_any q (ask_of_small (by have := HPQ.out.1; omega) HPQ.out.2) _ _ _ HQ4.out)
      obtain ⟨k0, k1, k2, k3, k4, k5⟩ := res_facts HY3.out
      have HE1 : Hid (errV true = .int .i64 0) := Lib.hid rfl
      have HE2 : Hid (errV false = .int .i64 250) := Lib.hid rfl
      clear hq3 hg3 bq
      cases hok : okQ q with
      | true =>
        rw [hok, HE1.out] at HCK
        have HPR := Lib.hid (show res = if okQ q = true then (q, (s.length : Int), 0) else (Qy.zero, 0, 3) from HPR.out)
        rw [hok, if_pos rfl] at HPR
        go_wp2_with fail
        (with_reducible refine (HCK.out).mono ?_)
        rintro _ w5 ⟨rfl, hb5⟩
        have HX5 := Lib.hid (HX3.out.below hb5 HX3.out.lt)
        have HY5 := Lib.hid (HY3.out.below hb5 HY3.out.lt)
        have HQ5 := Lib.hid (HQ4.out.bel hb5)
        have HB5 := Lib.hid (bel_step HB3.out hb5)
        obtain ⟨z0, z1, z2, z3, z4, z5⟩ := res_facts HX5.out
        obtain ⟨m0, m1, m2, m3, m4, m5⟩ := res_facts HY5.out
        clear hb5
        go_wp2_with fail
        have y := set4 HX5.out (.int .i64 q.op) (.int .i64 q.n) (.string ⟨q.s.toArray⟩) (.slice QB q.kids.length qd)
        have y0 := y.cell 0
        have y1 := y.cell 1
        have y2 := y.cell 2
        have y3 := y.cell 3
        simp at y0 y1 y2 y3
        refine bodyPost_ret (v := .tuple #[.agg #[.int .i64 q.op, .int .i64 q.n, .string ⟨q.s.toArray⟩, .slice QB q.kids.length qd], .int .i64 (s.length : Int), .int .i64 0]) (by simp [results, Tryz.results9, go_sem, y0, y1, y2, y3]) rfl ?_
        rw [HPR.out]
        exact ⟨_, rfl, ((HQ5.out.wide (S' := hiS w) (fun b hb _ => by show w.heap.size < b; simp at hb; omega)).set4 (g := w.heap.size) (Nat.lt_irrefl _) _ _ _ _).wide (fun b hb _ => Nat.le_of_lt hb), bel4 HB5.out (Nat.le_refl _) _ _ _ _⟩
      | false =>
        rw [hok, HE2.out] at HCK
        have HPR := Lib.hid (show res = if okQ q = true then (q, (s.length : Int), 0) else (Qy.zero, 0, 3) from HPR.out)
        rw [hok, if_neg (by decide)] at HPR
        go_wp2_with fail
        (with_reducible refine (HCK.out).mono ?_)
        rintro _ w5 ⟨rfl, hb5⟩
        have HX5 := Lib.hid (HX3.out.below hb5 HX3.out.lt)
        have HB5 := Lib.hid (bel_step HB3.out hb5)
        obtain ⟨z0, z1, z2, z3, z4, z5⟩ := res_facts HX5.out
        clear hb5
        go_wp2_with fail
        have y := set4 HX5.out (.int .i64 0) (.int .i64 0) (.string ⟨#[]⟩) (.slice none 0 0)
        have y0 := y.cell 0
        have y1 := y.cell 1
        have y2 := y.cell 2
        have y3 := y.cell 3
        simp at y0 y1 y2 y3
        refine bodyPost_ret (v := .tuple #[.agg #[.int .i64 0, .int .i64 0, .string ⟨#[]⟩, .slice none 0 0], .int .i64 0, .int .i64 3]) (by simp [results, Tryz.results9, go_sem, y0, y1, y2, y3]) rfl ?_
        rw [HPR.out]
        exact ⟨_, rfl, QAt.none26, bel4 HB5.out (Nat.le_refl _) _ _ _ _⟩
/-- the query of any text -/
theorem Parse26_any (s : List UInt8) (w : World) (hs : s.length ≤ 9223372036854775807) (hW : QpW w) : Calls Tryz.prog 9 #[.string ⟨s.toArray⟩] w (RetPs w (parD s)) := by
  by_cases h : 512 < s.length
  · exact Parse26_long s w h hs
  · exact Parse26_short s w (by omega) hW
end Go.Proofs.YtjjlmkleidbmhaaGreatDoor
end
section
namespace Go.Proofs.YtjjlmkleidbmhaaGreatDoor
open Go.ChangeShapes Go.WideShapes Go.ChangeAt Go.Deep
open Go.RowKit Go.Nst
set_option maxRecDepth 100000
set_option linter.unusedVariables false
set_option linter.unusedSimpArgs false

set_option maxHeartbeats 1000000 in
theorem refParts26_any (l : List UInt8) (w : World) (hl : l.length ≤ 512) : Calls Tryz.prog 20 #[.string ⟨l.toArray⟩] w (RetPts w (ptsL l 0)) := by
  obtain ⟨S, hS⟩ : ∃ S, S = ByteArray.mk l.toArray := ⟨_, rfl⟩
  have hsl : bl S = l := by rw [hS, bl_of]
  have hsz : S.size = l.length := by rw [hS, size_of]
  have HSL := Lib.hid hsl
  have HSZ := Lib.hid (And.intro hsz hl)
  have hz : S.size ≤ 512 := by omega
  rw [← hS]
  clear hS hsl hsz hl
  go_enter Tryz.func20, Tryz.ntmps20
  go_wp2_with fail
  go_loopw [3, 4] (fun v iv wr => ∃ (i : Nat) (A' : Option Addr) (n c' : Nat) (acc : List Pt), i ≤ S.size ∧ iv = .int .i64 i ∧ v = .slice A' n c' ∧ n ≤ i ∧ Hid (RwO 62 2 PtP wr w.heap.size (fun _ => False) A' n c' acc) ∧ Hid (ptsL l 0 = acc ++ ptsL (l.drop i) i) ∧ Hid (Below w.heap.size w wr)) (fun _ iv _ => S.size - (intOf iv).toNat)
  case atStart => exact ⟨0, none, 0, 0, [], Nat.zero_le _, rfl, rfl, Nat.le_refl _, Lib.hid RwO.nil, Lib.hid (by simp), Lib.hid (Below.refl _ _)⟩
  case round =>
    obtain ⟨i, A', n, c', acc, hil, rfl, rfl, hn, HO, HP, HB⟩ := hrel
    have hcp1 := HO.out.cap.1
    have hcp2 := HO.out.cap.2
    by_cases hlt : i < S.size
    · have hlt' : decide (i < S.size) = true := by simpa using hlt
      have hlti : (i : Int) < (S.size : Int) := by omega
      have hix := fun W => str_at14 S i W hlt
      have hgc : l[i]? = some (S[i]'hlt) := by
        rw [← HSL.out]
        simp [bl, ByteArray.getElem_eq_getElem_data]
      have HGC := Lib.hid hgc
      obtain ⟨c, hc⟩ : ∃ c : Nat, c = (S[i]'hlt).toNat := ⟨_, rfl⟩
      rw [← hc] at hix
      have HCC := Lib.hid hc
      have hc256 : c < 256 := by rw [hc]; exact UInt8.toNat_lt _
      clear hgc hc
      by_cases h32 : c = 32
      · have d1 : ((c : Int) == 32) = true := by simp; omega
        have HP2 : Hid (ptsL l 0 = acc ++ ptsL (l.drop (i + 1)) ((i + 1 : Nat) : Int)) := Lib.hid (by rw [HP.out, pts_b HGC.out (by rw [← HCC.out]; exact h32)])
        subst h32
        go_wp2_with fail
        go_roundw
        case rel => exact ⟨i + 1, A', n, c', acc, by omega, by go_num, rfl, by omega, HO, HP2, HB⟩
        case measure => simp [intOf] <;> omega
      · have d1 : ((c : Int) == 32) = false := by rw [beq_eq_false_iff_ne]; omega
        by_cases hs : c = 40 ∨ c = 41
        · have HP2 : Hid (ptsL l 0 = (acc ++ [⟨(l.drop i).take (i + 1 - i), i⟩]) ++ ptsL (l.drop (i + 1)) ((i + 1 : Nat) : Int)) := Lib.hid (by rw [HP.out, pts_s HGC.out (by rw [← HCC.out]; exact hs), Nat.add_sub_cancel_left, List.append_assoc]; rfl)
          rcases hs with rfl | rfl
          · go_wp2_with fail
            go_loop [5] (fun kv => kv = .int .i64 ((i : Int) + 1)) (fun kv => 0)
            case atStart => go_num
            case round =>
              subst hrel
              have hx := ext_run HSL.out i (i + 1) (by omega) (by omega)
              have hpp : PtP wr (fun b => False ∧ some b ≠ (Value.slice A' n c').ownBlock) #[.string (S.extract i (i + 1)), .int .i64 (i : Int)] ⟨(l.drop i).take ((i + 1) - i), i⟩ := ⟨by rw [hx]; rfl, by simp; have := HSZ.out; omega, by simp, by simp; have := HSZ.out; omega⟩
              have hr : PtR (wr.alloc (.cells #[.string (S.extract i (i + 1)), .int .i64 (i : Int)] 62)) (fun b => False ∧ some b ≠ (Value.slice A' n c').ownBlock) (some ⟨wr.heap.size, 0, none⟩) 1 [⟨(l.drop i).take ((i + 1) - i), i⟩] := RwR.lit ptP hpp
              have ho := HO.out.bel ptP (bel_alloc (Below.refl wr.heap.size wr) (.cells #[.string (S.extract i (i + 1)), .int .i64 (i : Int)] 62))
              have hba : w.heap.size ≤ (wr.alloc (.cells #[.string (S.extract i (i + 1)), .int .i64 (i : Int)] 62)).heap.size := by have := HB.out.size; simp; omega
              have HX := Lib.hid (bel_alloc (Below.refl wr.heap.size wr) (.cells #[.string (S.extract i (i + 1)), .int .i64 (i : Int)] 62))
              have hn1 : n ≤ 600 := by have := HSZ.out; omega
              clear hx hpp
              go_wp2_with (at_builtin; go_loud (refine wpList_appZ ptP iPtR rfl rfl rfl ho rfl hr (by omega) (by omega) hba ?_; intro A7 c7 w7 ho7 hb7 hgr7; have HO7 := Lib.hid ho7; have HB7 := Lib.hid hb7; clear ho7 hb7 hgr7))
              go_roundw
              case rel => exact ⟨(i + 1), A7, n + 1, c7, acc ++ [⟨(l.drop i).take ((i + 1) - i), i⟩], by omega, by go_num, rfl, by omega, HO7, HP2, Lib.hid (HB.out.trans ((HX.out.mono HB.out.size).trans HB7.out))⟩
              case measure => simp [intOf] <;> omega
          · go_wp2_with fail
            go_loop [5] (fun kv => kv = .int .i64 ((i : Int) + 1)) (fun kv => 0)
            case atStart => go_num
            case round =>
              subst hrel
              have hx := ext_run HSL.out i (i + 1) (by omega) (by omega)
              have hpp : PtP wr (fun b => False ∧ some b ≠ (Value.slice A' n c').ownBlock) #[.string (S.extract i (i + 1)), .int .i64 (i : Int)] ⟨(l.drop i).take ((i + 1) - i), i⟩ := ⟨by rw [hx]; rfl, by simp; have := HSZ.out; omega, by simp, by simp; have := HSZ.out; omega⟩
              have hr : PtR (wr.alloc (.cells #[.string (S.extract i (i + 1)), .int .i64 (i : Int)] 62)) (fun b => False ∧ some b ≠ (Value.slice A' n c').ownBlock) (some ⟨wr.heap.size, 0, none⟩) 1 [⟨(l.drop i).take ((i + 1) - i), i⟩] := RwR.lit ptP hpp
              have ho := HO.out.bel ptP (bel_alloc (Below.refl wr.heap.size wr) (.cells #[.string (S.extract i (i + 1)), .int .i64 (i : Int)] 62))
              have hba : w.heap.size ≤ (wr.alloc (.cells #[.string (S.extract i (i + 1)), .int .i64 (i : Int)] 62)).heap.size := by have := HB.out.size; simp; omega
              have HX := Lib.hid (bel_alloc (Below.refl wr.heap.size wr) (.cells #[.string (S.extract i (i + 1)), .int .i64 (i : Int)] 62))
              have hn1 : n ≤ 600 := by have := HSZ.out; omega
              clear hx hpp
              go_wp2_with (at_builtin; go_loud (refine wpList_appZ ptP iPtR rfl rfl rfl ho rfl hr (by omega) (by omega) hba ?_; intro A7 c7 w7 ho7 hb7 hgr7; have HO7 := Lib.hid ho7; have HB7 := Lib.hid hb7; clear ho7 hb7 hgr7))
              go_roundw
              case rel => exact ⟨(i + 1), A7, n + 1, c7, acc ++ [⟨(l.drop i).take ((i + 1) - i), i⟩], by omega, by go_num, rfl, by omega, HO7, HP2, Lib.hid (HB.out.trans ((HX.out.mono HB.out.size).trans HB7.out))⟩
              case measure => simp [intOf] <;> omega
        · have hns : ¬ ((S[i]'hlt).toNat = 32 ∨ (S[i]'hlt).toNat = 40 ∨ (S[i]'hlt).toNat = 41) := by rw [← HCC.out]; omega
          have HNS := Lib.hid hns
          have d2 : ((c : Int) != 40) = true := by rw [bne_iff_ne]; omega
          have d3 : ((c : Int) != 41) = true := by rw [bne_iff_ne]; omega
          clear hns hs
          go_wp2_with fail
          go_loop [5] (fun kv => ∃ k : Nat, kv = .int .i64 k ∧ i + 1 ≤ k ∧ k ≤ S.size ∧ Hid (∀ j, i + 1 ≤ j → j < k → ∀ c, l[j]? = some c → runB c = true)) (fun kv => S.size - (intOf kv).toNat)
          case atStart => exact ⟨i + 1, by go_num, Nat.le_refl _, by omega, Lib.hid (fun j h1 h2 => absurd h2 (by omega))⟩
          case round =>
            obtain ⟨k, rfl, hk1, hk2, HR⟩ := hrel
            by_cases hkl : k < S.size
            · have hkl' : decide (k < S.size) = true := by simpa using hkl
              have hkli : (k : Int) < (S.size : Int) := by omega
              have hjx := fun W => str_at14 S k W hkl
              have hgk : l[k]? = some (S[k]'hkl) := by
                rw [← HSL.out]
                simp [bl, ByteArray.getElem_eq_getElem_data]
              have HGK := Lib.hid hgk
              obtain ⟨ck, hck⟩ : ∃ c : Nat, c = (S[k]'hkl).toNat := ⟨_, rfl⟩
              rw [← hck] at hjx
              have HCK := Lib.hid hck
              have hck256 : ck < 256 := by rw [hck]; exact UInt8.toNat_lt _
              have HBS : Hid (runB (S[k]'hkl) = !decide (ck = 32 ∨ ck = 40 ∨ ck = 41)) := Lib.hid (by rw [runB, sideN, ← hck])
              clear hgk hck
              by_cases hcs : ck = 32 ∨ ck = 40 ∨ ck = 41
              · have HP2 : Hid (ptsL l 0 = (acc ++ [⟨(l.drop i).take (k - i), i⟩]) ++ ptsL (l.drop k) (k : Int)) := Lib.hid (by rw [HP.out, pts_r HGC.out HNS.out hk1 (by have := HSZ.out; omega) HR.out (.inr ⟨_, HGK.out, by rw [HBS.out]; simp; omega⟩), List.append_assoc]; rfl)
                rcases hcs with hcs | hcs | hcs
                · have e1 : ((ck : Int) != 32) = false := by rw [bne_eq_false_iff_eq]; omega
                  clear hcs
                  have hx := ext_run HSL.out i k (by omega) (by omega)
                  have hpp : PtP wr (fun b => False ∧ some b ≠ (Value.slice A' n c').ownBlock) #[.string (S.extract i k), .int .i64 (i : Int)] ⟨(l.drop i).take (k - i), i⟩ := ⟨by rw [hx]; rfl, by simp; have := HSZ.out; omega, by simp, by simp; have := HSZ.out; omega⟩
                  have hr : PtR (wr.alloc (.cells #[.string (S.extract i k), .int .i64 (i : Int)] 62)) (fun b => False ∧ some b ≠ (Value.slice A' n c').ownBlock) (some ⟨wr.heap.size, 0, none⟩) 1 [⟨(l.drop i).take (k - i), i⟩] := RwR.lit ptP hpp
                  have ho := HO.out.bel ptP (bel_alloc (Below.refl wr.heap.size wr) (.cells #[.string (S.extract i k), .int .i64 (i : Int)] 62))
                  have hba : w.heap.size ≤ (wr.alloc (.cells #[.string (S.extract i k), .int .i64 (i : Int)] 62)).heap.size := by have := HB.out.size; simp; omega
                  have HX := Lib.hid (bel_alloc (Below.refl wr.heap.size wr) (.cells #[.string (S.extract i k), .int .i64 (i : Int)] 62))
                  have hn1 : n ≤ 600 := by have := HSZ.out; omega
                  clear hx hpp
                  go_wp2_with (at_builtin; go_loud (refine wpList_appZ ptP iPtR rfl rfl rfl ho rfl hr (by omega) (by omega) hba ?_; intro A7 c7 w7 ho7 hb7 hgr7; have HO7 := Lib.hid ho7; have HB7 := Lib.hid hb7; clear ho7 hb7 hgr7))
                  go_roundw
                  case rel => exact ⟨k, A7, n + 1, c7, acc ++ [⟨(l.drop i).take (k - i), i⟩], by omega, by go_num, rfl, by omega, HO7, HP2, Lib.hid (HB.out.trans ((HX.out.mono HB.out.size).trans HB7.out))⟩
                  case measure => simp [intOf] <;> omega
                · have e1 : ((ck : Int) != 32) = true := by rw [bne_iff_ne]; omega
                  have e2 : ((ck : Int) != 40) = false := by rw [bne_eq_false_iff_eq]; omega
                  clear hcs
                  have hx := ext_run HSL.out i k (by omega) (by omega)
                  have hpp : PtP wr (fun b => False ∧ some b ≠ (Value.slice A' n c').ownBlock) #[.string (S.extract i k), .int .i64 (i : Int)] ⟨(l.drop i).take (k - i), i⟩ := ⟨by rw [hx]; rfl, by simp; have := HSZ.out; omega, by simp, by simp; have := HSZ.out; omega⟩
                  have hr : PtR (wr.alloc (.cells #[.string (S.extract i k), .int .i64 (i : Int)] 62)) (fun b => False ∧ some b ≠ (Value.slice A' n c').ownBlock) (some ⟨wr.heap.size, 0, none⟩) 1 [⟨(l.drop i).take (k - i), i⟩] := RwR.lit ptP hpp
                  have ho := HO.out.bel ptP (bel_alloc (Below.refl wr.heap.size wr) (.cells #[.string (S.extract i k), .int .i64 (i : Int)] 62))
                  have hba : w.heap.size ≤ (wr.alloc (.cells #[.string (S.extract i k), .int .i64 (i : Int)] 62)).heap.size := by have := HB.out.size; simp; omega
                  have HX := Lib.hid (bel_alloc (Below.refl wr.heap.size wr) (.cells #[.string (S.extract i k), .int .i64 (i : Int)] 62))
                  have hn1 : n ≤ 600 := by have := HSZ.out; omega
                  clear hx hpp
                  go_wp2_with (at_builtin; go_loud (refine wpList_appZ ptP iPtR rfl rfl rfl ho rfl hr (by omega) (by omega) hba ?_; intro A7 c7 w7 ho7 hb7 hgr7; have HO7 := Lib.hid ho7; have HB7 := Lib.hid hb7; clear ho7 hb7 hgr7))
                  go_roundw
                  case rel => exact ⟨k, A7, n + 1, c7, acc ++ [⟨(l.drop i).take (k - i), i⟩], by omega, by go_num, rfl, by omega, HO7, HP2, Lib.hid (HB.out.trans ((HX.out.mono HB.out.size).trans HB7.out))⟩
                  case measure => simp [intOf] <;> omega
                · have e1 : ((ck : Int) != 32) = true := by rw [bne_iff_ne]; omega
                  have e2 : ((ck : Int) != 40) = true := by rw [bne_iff_ne]; omega
                  have e3 : ((ck : Int) != 41) = false := by rw [bne_eq_false_iff_eq]; omega
                  clear hcs
                  have hx := ext_run HSL.out i k (by omega) (by omega)
                  have hpp : PtP wr (fun b => False ∧ some b ≠ (Value.slice A' n c').ownBlock) #[.string (S.extract i k), .int .i64 (i : Int)] ⟨(l.drop i).take (k - i), i⟩ := ⟨by rw [hx]; rfl, by simp; have := HSZ.out; omega, by simp, by simp; have := HSZ.out; omega⟩
                  have hr : PtR (wr.alloc (.cells #[.string (S.extract i k), .int .i64 (i : Int)] 62)) (fun b => False ∧ some b ≠ (Value.slice A' n c').ownBlock) (some ⟨wr.heap.size, 0, none⟩) 1 [⟨(l.drop i).take (k - i), i⟩] := RwR.lit ptP hpp
                  have ho := HO.out.bel ptP (bel_alloc (Below.refl wr.heap.size wr) (.cells #[.string (S.extract i k), .int .i64 (i : Int)] 62))
                  have hba : w.heap.size ≤ (wr.alloc (.cells #[.string (S.extract i k), .int .i64 (i : Int)] 62)).heap.size := by have := HB.out.size; simp; omega
                  have HX := Lib.hid (bel_alloc (Below.refl wr.heap.size wr) (.cells #[.string (S.extract i k), .int .i64 (i : Int)] 62))
                  have hn1 : n ≤ 600 := by have := HSZ.out; omega
                  clear hx hpp
                  go_wp2_with (at_builtin; go_loud (refine wpList_appZ ptP iPtR rfl rfl rfl ho rfl hr (by omega) (by omega) hba ?_; intro A7 c7 w7 ho7 hb7 hgr7; have HO7 := Lib.hid ho7; have HB7 := Lib.hid hb7; clear ho7 hb7 hgr7))
                  go_roundw
                  case rel => exact ⟨k, A7, n + 1, c7, acc ++ [⟨(l.drop i).take (k - i), i⟩], by omega, by go_num, rfl, by omega, HO7, HP2, Lib.hid (HB.out.trans ((HX.out.mono HB.out.size).trans HB7.out))⟩
                  case measure => simp [intOf] <;> omega
              · have HR2 : Hid (∀ j, i + 1 ≤ j → j < k + 1 → ∀ c, l[j]? = some c → runB c = true) := Lib.hid (fun j h1 h2 c hc => by
                  rcases Nat.lt_or_ge j k with h | h
                  · exact HR.out j h1 h c hc
                  · obtain rfl : j = k := by omega
                    rw [HGK.out] at hc
                    injection hc with hc
                    rw [← hc, HBS.out]
                    simpa using hcs)
                have e1 : ((ck : Int) != 32) = true := by rw [bne_iff_ne]; omega
                have e2 : ((ck : Int) != 40) = true := by rw [bne_iff_ne]; omega
                have e3 : ((ck : Int) != 41) = true := by rw [bne_iff_ne]; omega
                clear hcs
                go_wp2_with fail
                go_round
                case rel => exact ⟨k + 1, by go_num, by omega, by omega, HR2⟩
                case measure => simp [intOf] <;> omega
            · obtain rfl : k = S.size := by omega
              have hkl' : decide (S.size < S.size) = false := by simp
              have HP2 : Hid (ptsL l 0 = (acc ++ [⟨(l.drop i).take (S.size - i), i⟩]) ++ ptsL (l.drop S.size) (S.size : Int)) := Lib.hid (by rw [HP.out, pts_r HGC.out HNS.out hk1 (by have := HSZ.out; omega) HR.out (.inl HSZ.out.1), List.append_assoc]; rfl)
              have hx := ext_run HSL.out i S.size (by omega) (by omega)
              have hpp : PtP wr (fun b => False ∧ some b ≠ (Value.slice A' n c').ownBlock) #[.string (S.extract i S.size), .int .i64 (i : Int)] ⟨(l.drop i).take (S.size - i), i⟩ := ⟨by rw [hx]; rfl, by simp; have := HSZ.out; omega, by simp, by simp; have := HSZ.out; omega⟩
              have hr : PtR (wr.alloc (.cells #[.string (S.extract i S.size), .int .i64 (i : Int)] 62)) (fun b => False ∧ some b ≠ (Value.slice A' n c').ownBlock) (some ⟨wr.heap.size, 0, none⟩) 1 [⟨(l.drop i).take (S.size - i), i⟩] := RwR.lit ptP hpp
              have ho := HO.out.bel ptP (bel_alloc (Below.refl wr.heap.size wr) (.cells #[.string (S.extract i S.size), .int .i64 (i : Int)] 62))
              have hba : w.heap.size ≤ (wr.alloc (.cells #[.string (S.extract i S.size), .int .i64 (i : Int)] 62)).heap.size := by have := HB.out.size; simp; omega
              have HX := Lib.hid (bel_alloc (Below.refl wr.heap.size wr) (.cells #[.string (S.extract i S.size), .int .i64 (i : Int)] 62))
              have hn1 : n ≤ 600 := by have := HSZ.out; omega
              clear hx hpp
              go_wp2_with (at_builtin; go_loud (refine wpList_appZ ptP iPtR rfl rfl rfl ho rfl hr (by omega) (by omega) hba ?_; intro A7 c7 w7 ho7 hb7 hgr7; have HO7 := Lib.hid ho7; have HB7 := Lib.hid hb7; clear ho7 hb7 hgr7))
              go_roundw
              case rel => exact ⟨S.size, A7, n + 1, c7, acc ++ [⟨(l.drop i).take (S.size - i), i⟩], by omega, by go_num, rfl, by omega, HO7, HP2, Lib.hid (HB.out.trans ((HX.out.mono HB.out.size).trans HB7.out))⟩
              case measure => simp [intOf] <;> omega
    · obtain rfl : i = S.size := by omega
      have hlt' : decide (S.size < S.size) = false := by simp
      have HQ := Lib.hid (HO.out.qs ptP (S' := fun b => w.heap.size ≤ b) (fun b h _ => h.elim) (fun b h _ => h))
      have HF : Hid (ptsL l 0 = acc) := Lib.hid (by rw [HP.out, List.drop_of_length_le (by have := HSZ.out; omega), ptsL_nil, List.append_nil])
      clear HO
      go_wp2_with fail
      go_ret
      exact ⟨A', n, c', rfl, by rw [HF.out]; exact HQ.out, hcp1, hcp2, HB.out⟩
end Go.Proofs.YtjjlmkleidbmhaaGreatDoor
end
section
namespace Go.Proofs.YtjjlmkleidbmhaaGreatDoor
open Go.ChangeShapes Go.WideShapes Go.ChangeAt Go.Deep
open Go.RowKit Go.Nst
set_option maxRecDepth 100000
set_option linter.unusedVariables false
set_option linter.unusedSimpArgs false

theorem psd_new (w : World) (A : Option Addr) (n c : Nat) (l : List Pt) (e : Int) (hr : PtA w (fun _ => True) A n l) (hc : n ≤ c ∧ c ≤ 9223372036854775807) (hn : n ≤ 600) (he : 0 ≤ e ∧ e ≤ 512) : PsD (w.alloc (.cells #[.slice A n c, .int .i64 0, .int .i64 e, .int .i64 (-1)] 50)) w.heap.size (fun b => b < w.heap.size) l 0 e (-1) A n c :=
  ⟨Blk.new w _ _, (hr.wide ptP (S' := fun b => b < w.heap.size) (fun b _ hlt => hlt)).bel ptP (bel_alloc (Below.refl _ _) _), hc, ⟨Nat.zero_le _, hn⟩, Nat.lt_irrefl _, he⟩
set_option maxHeartbeats 4000000 in
theorem rParse26_long (s : List UInt8) (w : World) (hs : 512 < s.length) (hs2 : s.length ≤ 9223372036854775807) : Calls Tryz.prog 10 #[.string ⟨s.toArray⟩] w (RetPs w (parD s)) := by
  have hp : parD s = (Qy.zero, 0, 3) := by
    unfold parD prsD
    rw [if_pos hs]
  rw [hp]
  have hz : (ByteArray.mk s.toArray).size = s.length := size_of s
  have d1 : decide (512 < s.length) = true := by simpa using hs
  have d2 : decide ((512 : Int) < (s.length : Int)) = true := by simp; omega
  have X0 := Lib.hid (Blk.new w 25 #[.int .i64 0, .int .i64 0, .string ⟨#[]⟩, .slice none 0 0])
  have B0 := Lib.hid (bel_alloc (Below.refl w.heap.size w) (.cells #[.int .i64 0, .int .i64 0, .string ⟨#[]⟩, .slice none 0 0] 25))
  clear hp hs
  go_enter Tryz.func10, Tryz.ntmps10
  go_wp2_with fail
  obtain ⟨y0, y1, y2, y3, -, -⟩ := res_facts X0.out
  exact bodyPost_ret (v := .tuple #[.agg #[.int .i64 0, .int .i64 0, .string ⟨#[]⟩, .slice none 0 0], .int .i64 0, .int .i64 3]) (by simp [results, Tryz.results10, go_sem, y0, y1, y2, y3]) rfl ⟨_, rfl, QAt.none26, B0.out⟩
set_option maxHeartbeats 8000000 in
theorem rParse26_short (s : List UInt8) (w : World) (hs : s.length ≤ 512) : Calls Tryz.prog 10 #[.string ⟨s.toArray⟩] w (RetPs w (parD s)) := by
  have hz : (ByteArray.mk s.toArray).size = s.length := size_of s
  have d1 : decide (512 < s.length) = false := by simp; omega
  have d2 : decide ((512 : Int) < (s.length : Int)) = false := by simp; omega
  have X0 := Lib.hid (Blk.new w 25 #[.int .i64 0, .int .i64 0, .string ⟨#[]⟩, .slice none 0 0])
  have B0 := Lib.hid (bel_alloc (Below.refl w.heap.size w) (.cells #[.int .i64 0, .int .i64 0, .string ⟨#[]⟩, .slice none 0 0] 25))
  have HPT := Lib.hid (fun W => refParts26_any s W hs)
  have hpl := pts_len s.length s 0 (Nat.le_refl _)
  have HPA := Lib.hid (fun q r (h : qryF (oneF termD (ptsL s 0).length) (ptsL s 0) = .ok q r) => parsed_ask hs h)
  have HPR : Hid (parD s = match qryF (oneF termD (ptsL s 0).length) (ptsL s 0) with
  | .bad r => (Qy.zero, posD s.length r, 250)
  | .ok q [] => if okQ q then (q, (s.length : Int), 0) else (Qy.zero, 0, 3)
  | .ok _ (p :: _) => (Qy.zero, p.p, 250)) := Lib.hid (by
    unfold parD prsD
    rw [if_neg (by omega)]
    rfl)
  generalize parD s = res at *
  generalize ptsL s 0 = l at *
  go_enter Tryz.func10, Tryz.ntmps10
  go_wp2_with fail
  (with_reducible refine (HPT.out _).mono ?_)
  rintro _ w1 ⟨A, n, c, rfl, hr, hc1, hc2, hb1⟩
  have HR1 := Lib.hid (hr.wide ptP (S' := fun _ => True) (fun _ _ _ => trivial))
  have HB1 := Lib.hid (bel_step B0.out hb1)
  have HX1 := Lib.hid (X0.out.below hb1 X0.out.lt)
  have hln := hr.len
  have hs1 := hb1.size
  simp at hs1
  clear hr hb1
  go_wp2_with fail
  have hpsd := psd_new w1 A n c l (s.length : Int) HR1.out ⟨hc1, hc2⟩ (by omega) ⟨by omega, by omega⟩
  have HQY := Lib.hid (rqry26_any termD rterm26_all_ways l.length (by omega) l 0 _ w1.heap.size _ (s.length : Int) A n c (by simp) hpsd)
  rw [List.drop_zero] at HQY
  have HB2 := Lib.hid (bel_alloc HB1.out (.cells #[.slice A n c, .int .i64 0, .int .i64 (s.length : Int), .int .i64 (-1)] 50))
  have HX2 := Lib.hid (HX1.out.alloc (.cells #[.slice A n c, .int .i64 0, .int .i64 (s.length : Int), .int .i64 (-1)] 50))
  have hw2 : (w1.alloc (.cells #[.slice A n c, .int .i64 0, .int .i64 (s.length : Int), .int .i64 (-1)] 50)).heap.size = w1.heap.size + 1 := by simp
  clear hpsd
  (with_reducible refine (HQY.out).mono ?_)
  rintro _ w3 ⟨vs, q, i3, bad3, rfl, hq3, hp3, hg3, hfit⟩
  have HQ3 := Lib.hid hq3
  obtain ⟨QB, qd, rfl, -, -, -, -, -, -⟩ := hq3.open_
  simp only [qV] at HQ3 ⊢
  have bq := bel_alloc (Below.refl w3.heap.size w3) (.cells #[.int .i64 q.op, .int .i64 q.n, .string ⟨q.s.toArray⟩, .slice QB q.kids.length qd] 25)
  have hsz3 := hg3.size
  rw [hw2] at hsz3
  have HX3 := Lib.hid ((HX2.out.grown hg3 (by simp; omega)).below bq (by omega))
  have HB3 := Lib.hid ((HB2.out.trans (below_grown hg3 (by omega) (by omega))).trans (bq.mono (by omega)))
  have HY3 := Lib.hid (Blk.new w3 25 #[.int .i64 q.op, .int .i64 q.n, .string ⟨q.s.toArray⟩, .slice QB q.kids.length qd])
  have HQ4 := Lib.hid (HQ3.out.bel bq)
  have HP3 := Lib.hid (hp3.grown bq)
  obtain ⟨p0, p1, p2, p3, p4, p5⟩ := psd_facts HP3.out
  obtain ⟨k0, k1, k2, k3, k4, k5⟩ := res_facts HX3.out
  obtain ⟨q0, q1, q2, q3, q4, q5⟩ := res_facts HY3.out
  have hi3 := HP3.out.idx.1
  rcases hfit with ⟨rfl, e2⟩ | ⟨e1, r0, e2, e3⟩
  case inr =>
    have HR : Hid (res = (Qy.zero, bad3, 250)) := Lib.hid (by rw [HPR.out, e2, e3])
    have d3 : decide (bad3 < 0) = false := by simpa using e1
    have d4 : decide (0 ≤ bad3) = true := by simpa using e1
    clear hq3 hg3 bq hp3 e2 e3 HPR HPA
    go_wp2_with fail
    go_quiet (fail)
    go_wp2_with fail
    go_region
    go_wp2_with fail
    have bd := drewN_bel26 (Below.refl (w3.alloc (.cells #[.int .i64 q.op, .int .i64 q.n, .string ⟨q.s.toArray⟩, .slice QB q.kids.length qd] 25)).heap.size (w3.alloc (.cells #[.int .i64 q.op, .int .i64 q.n, .string ⟨q.s.toArray⟩, .slice QB q.kids.length qd] 25))) (nq + 1)
    have x3 := HX3.out.below bd HX3.out.lt
    have b3 := bel_step HB3.out bd
    have y := set4 x3 (.int .i64 0) (.int .i64 0) (.string ⟨#[]⟩) (.slice none 0 0)
    have y0 := y.cell 0
    have y1 := y.cell 1
    have y2 := y.cell 2
    have y3 := y.cell 3
    simp at y0 y1 y2 y3
    refine bodyPost_ret (v := .tuple #[.agg #[.int .i64 0, .int .i64 0, .string ⟨#[]⟩, .slice none 0 0], .int .i64 bad3, .int .i64 250]) (by simp [results, Tryz.results10, go_sem, y0, y1, y2, y3]) rfl ?_
    rw [HR.out]
    exact ⟨_, rfl, QAt.none26, bel4 b3 (Nat.le_refl _) _ _ _ _⟩
  case inl =>
    by_cases hin : i3 < n
    · have hlt3 : i3 < l.length := by omega
      obtain ⟨p, hp⟩ : ∃ p, l[i3]? = some p := ⟨_, List.getElem?_eq_getElem hlt3⟩
      have HR : Hid (res = (Qy.zero, posD (s.length : Int) (l.drop i3), 250)) := Lib.hid (by rw [HPR.out, e2, (nxt_get hp).2]; rfl)
      have d3 : (i3 : Int) < (n : Int) := by omega
      have d4 : decide (i3 < n) = true := by simpa using hin
      clear hq3 hg3 bq hp3 e2 HPR HPA hp
      go_wp2_with fail
      go_quiet (fail)
      go_wp2_with fail
      have bd := drewN_bel26 (Below.refl (w3.alloc (.cells #[.int .i64 q.op, .int .i64 q.n, .string ⟨q.s.toArray⟩, .slice QB q.kids.length qd] 25)).heap.size (w3.alloc (.cells #[.int .i64 q.op, .int .i64 q.n, .string ⟨q.s.toArray⟩, .slice QB q.kids.length qd] 25))) nq
      have hp4 := HP3.out.grown bd
      have HX4 := Lib.hid (HX3.out.below bd HX3.out.lt)
      have HB4 := Lib.hid (bel_step HB3.out bd)
      have HFL := Lib.hid (rfail26_any _ w1.heap.size _ l i3 (s.length : Int) A n c hp4)
      clear bd hp4
      (with_reducible refine (HFL.out).mono ?_)
      rintro _ w5 ⟨rfl, hp5, hg5, hpos⟩
      have d5 : decide (0 ≤ posD (s.length : Int) (l.drop i3)) = true := by simpa using hpos
      generalize posD (s.length : Int) (l.drop i3) = pz at *
      obtain ⟨p0, p1, p2, p3, p4, p5⟩ := psd_facts hp5
      have hs4 := HB4.out.size
      have HX5 := Lib.hid (HX4.out.grown hg5 (by simp; omega))
      have HB5 := Lib.hid (HB4.out.trans (below_grown hg5 (show w.heap.size ≤ w1.heap.size by omega) hs4))
      obtain ⟨k0, k1, k2, k3, k4, k5⟩ := res_facts HX5.out
      have HPP := Lib.hid hpos
      clear hp5 hg5 hpos hs4
      go_wp2_with fail
      go_region
      go_wp2_with fail
      have y := (set4 HX5.out (.int .i64 0) (.int .i64 0) (.string ⟨#[]⟩) (.slice none 0 0)).drew
      have y0 := y.cell 0
      have y1 := y.cell 1
      have y2 := y.cell 2
      have y3 := y.cell 3
      simp at y0 y1 y2 y3
      refine bodyPost_ret (v := .tuple #[.agg #[.int .i64 0, .int .i64 0, .string ⟨#[]⟩, .slice none 0 0], .int .i64 pz, .int .i64 250]) (by simp [results, Tryz.results10, go_sem, y0, y1, y2, y3]) rfl ?_
      rw [HR.out]
      exact ⟨_, rfl, QAt.none26, (bel4 HB5.out (Nat.le_refl _) _ _ _ _).drew⟩
    · obtain rfl : i3 = n := by omega
      have hd : l.drop i3 = [] := List.drop_of_length_le (by omega)
      rw [hd] at e2
      have HR : Hid (res = if okQ q = true then (q, (s.length : Int), 0) else (Qy.zero, 0, 3)) := Lib.hid (by rw [HPR.out, e2])
      have HPQ := Lib.hid (HPA.out q _ e2)
      have d4 : decide (i3 < i3) = false := by simp
      clear hq3 hg3 bq hp3 e2 HPR HPA
      go_wp2_with fail
      go_quiet (fail)
      go_wp2_with fail
      have bd := drewN_bel26 (Below.refl (w3.alloc (.cells #[.int .i64 q.op, .int .i64 q.n, .string ⟨q.s.toArray⟩, .slice QB q.kids.length qd] 25)).heap.size (w3.alloc (.cells #[.int .i64 q.op, .int .i64 q.n, .string ⟨q.s.toArray⟩, .slice QB q.kids.length qd] 25))) nq
      have HX4 := Lib.hid (HX3.out.below bd HX3.out.lt)
      have HY4 := Lib.hid (HY3.out.below bd HY3.out.lt)
      have HB4 := Lib.hid (bel_step HB3.out bd)
      have HQ5 := Lib.hid (HQ4.out.bel bd)
      have HCK := Lib.hid (refCheck25_any q (ask_of_small (by have := HPQ.out.1; omega) HPQ.out.2) _ _ _ HQ5.out)
      clear bd
      (with_reducible refine (HCK.out).mono ?_)
      rintro _ w5 ⟨rfl, hb5⟩
      have HX6 := Lib.hid (HX4.out.below hb5 HX4.out.lt)
      have HY6 := Lib.hid (HY4.out.below hb5 HY4.out.lt)
      have HB6 := Lib.hid (bel_step HB4.out hb5)
      have HQ6 := Lib.hid (HQ5.out.bel hb5)
      obtain ⟨k0, k1, k2, k3, k4, k5⟩ := res_facts HX6.out
      obtain ⟨m0, m1, m2, m3, m4, m5⟩ := res_facts HY6.out
      clear hb5
      cases hok : okQ q with
      | true =>
        rw [hok, if_pos rfl] at HR
        go_wp2_with fail
        have y := set4 HX6.out (.int .i64 q.op) (.int .i64 q.n) (.string ⟨q.s.toArray⟩) (.slice QB q.kids.length qd)
        have y0 := y.cell 0
        have y1 := y.cell 1
        have y2 := y.cell 2
        have y3 := y.cell 3
        simp at y0 y1 y2 y3
        refine bodyPost_ret (v := .tuple #[.agg #[.int .i64 q.op, .int .i64 q.n, .string ⟨q.s.toArray⟩, .slice QB q.kids.length qd], .int .i64 (s.length : Int), .int .i64 0]) (by simp [results, Tryz.results10, go_sem, y0, y1, y2, y3]) rfl ?_
        rw [HR.out]
        exact ⟨_, rfl, ((HQ6.out.wide (S' := hiS w) (fun b hb _ => by show w.heap.size < b; (try simp at hb); omega)).set4 (g := w.heap.size) (Nat.lt_irrefl _) _ _ _ _).wide (fun b hb _ => Nat.le_of_lt hb), bel4 HB6.out (Nat.le_refl _) _ _ _ _⟩
      | false =>
        rw [hok, if_neg (by decide)] at HR
        go_wp2_with fail
        have y := set4 HX6.out (.int .i64 0) (.int .i64 0) (.string ⟨#[]⟩) (.slice none 0 0)
        have y0 := y.cell 0
        have y1 := y.cell 1
        have y2 := y.cell 2
        have y3 := y.cell 3
        simp at y0 y1 y2 y3
        refine bodyPost_ret (v := .tuple #[.agg #[.int .i64 0, .int .i64 0, .string ⟨#[]⟩, .slice none 0 0], .int .i64 0, .int .i64 3]) (by simp [results, Tryz.results10, go_sem, y0, y1, y2, y3]) rfl ?_
        rw [HR.out]
        exact ⟨_, rfl, QAt.none26, bel4 HB6.out (Nat.le_refl _) _ _ _ _⟩
/-- the query of any text, the document's -/
theorem rParse26_any (s : List UInt8) (w : World) (hs : s.length ≤ 9223372036854775807) : Calls Tryz.prog 10 #[.string ⟨s.toArray⟩] w (RetPs w (parD s)) := by
  by_cases h : 512 < s.length
  · exact rParse26_long s w h hs
  · exact rParse26_short s w (by omega)
end Go.Proofs.YtjjlmkleidbmhaaGreatDoor
end
