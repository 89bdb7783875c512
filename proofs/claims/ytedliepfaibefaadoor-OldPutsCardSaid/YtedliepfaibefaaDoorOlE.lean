/-
  Lists that are the same; the reference's Third; Events (printed by gen_olde.py).
-/
import Derived.Test.YtedliepfaibefaaDoorOlS
import Derived.Test.YtedliepfaibefaaDoorOlH
import Derived.Test.YtedliepfaibefaaDoorOlR
import Derived.Test.YtedliepfaibefaaDoorOlP
namespace Go.Proofs.YtedliepfaibefaaDoor
open Go.RowKit Go.Nst
set_option maxRecDepth 100000
set_option linter.unusedVariables false
set_option linter.unusedSimpArgs false

theorem below_realloc {B : Nat} {w : World} (o o' : Obj) (h : B ≤ w.heap.size) : Below B (w.alloc o) (w.alloc o') :=
  ⟨rfl, rfl, rfl, by simp, fun i hi => (Below.heap_alloc w o' i (by omega)).trans (Below.heap_alloc w o i (by omega)).symm⟩
set_option maxHeartbeats 4000000 in
theorem same14_0  (A B : Option Addr) (c d : Nat) (w : World) (hA : Rw w A 0 (evsC [])) (hB : Rw w B 0 (evsC [])) : Calls Tryd.prog 12 #[.slice A 0 c, .slice B 0 d] w (RetTrue w) := by
  go_enter Tryd.func12, Tryd.ntmps12
  go_wp2_with fail
  go_loopw [5] (fun x wr => ∃ z : Int, 0 ≤ z ∧ z ≤ 0 ∧ x = .int .i64 z ∧ Below w.heap.size w wr) (fun x _ => (0 - intOf x).toNat)
  case atStart => exact ⟨0, by omega, by omega, rfl, Below.refl _ _⟩
  case round =>
    obtain ⟨z, hz0, hz1, rfl, hbw⟩ := hrel
    rcases (by omega : z = 0) with rfl
    · go_wp2_with fail
      go_ret
      exact ⟨rfl, hbw⟩
set_option maxHeartbeats 4000000 in
theorem same14_1 (pk pa pb pn : Int) (ps pt pu : List UInt8) (A B : Option Addr) (c d : Nat) (w : World) (hA : Rw w A 1 (evsC [⟨pk, pa, pb, pn, ps, pt, pu⟩])) (hB : Rw w B 1 (evsC [⟨pk, pa, pb, pn, ps, pt, pu⟩])) : Calls Tryd.prog 12 #[.slice A 1 c, .slice B 1 d] w (RetTrue w) := by
  rcases hA with h0 | ⟨g, rfl, hg, hcA⟩
  · omega
  rcases hB with h0 | ⟨g2, rfl, hg2, hcB⟩
  · omega
  have x0_0 : ∀ W, Below w.heap.size w W → W.cell? ⟨g, 0, none⟩ = some (.int .i64 pk) := fun W hW => (hW.cell (p := ⟨g, 0, none⟩) hg).trans (hcA 0 _ rfl)
  have y0_0 : ∀ W, Below w.heap.size w W → W.cell? ⟨g2, 0, none⟩ = some (.int .i64 pk) := fun W hW => (hW.cell (p := ⟨g2, 0, none⟩) hg2).trans (hcB 0 _ rfl)
  have x0_1 : ∀ W, Below w.heap.size w W → W.cell? ⟨g, 1, none⟩ = some (.int .i64 pa) := fun W hW => (hW.cell (p := ⟨g, 1, none⟩) hg).trans (hcA 1 _ rfl)
  have y0_1 : ∀ W, Below w.heap.size w W → W.cell? ⟨g2, 1, none⟩ = some (.int .i64 pa) := fun W hW => (hW.cell (p := ⟨g2, 1, none⟩) hg2).trans (hcB 1 _ rfl)
  have x0_2 : ∀ W, Below w.heap.size w W → W.cell? ⟨g, 2, none⟩ = some (.int .i64 pb) := fun W hW => (hW.cell (p := ⟨g, 2, none⟩) hg).trans (hcA 2 _ rfl)
  have y0_2 : ∀ W, Below w.heap.size w W → W.cell? ⟨g2, 2, none⟩ = some (.int .i64 pb) := fun W hW => (hW.cell (p := ⟨g2, 2, none⟩) hg2).trans (hcB 2 _ rfl)
  have x0_3 : ∀ W, Below w.heap.size w W → W.cell? ⟨g, 3, none⟩ = some (.int .i64 pn) := fun W hW => (hW.cell (p := ⟨g, 3, none⟩) hg).trans (hcA 3 _ rfl)
  have y0_3 : ∀ W, Below w.heap.size w W → W.cell? ⟨g2, 3, none⟩ = some (.int .i64 pn) := fun W hW => (hW.cell (p := ⟨g2, 3, none⟩) hg2).trans (hcB 3 _ rfl)
  have x0_4 : ∀ W, Below w.heap.size w W → W.cell? ⟨g, 4, none⟩ = some (.string ⟨ps.toArray⟩) := fun W hW => (hW.cell (p := ⟨g, 4, none⟩) hg).trans (hcA 4 _ rfl)
  have y0_4 : ∀ W, Below w.heap.size w W → W.cell? ⟨g2, 4, none⟩ = some (.string ⟨ps.toArray⟩) := fun W hW => (hW.cell (p := ⟨g2, 4, none⟩) hg2).trans (hcB 4 _ rfl)
  have x0_5 : ∀ W, Below w.heap.size w W → W.cell? ⟨g, 5, none⟩ = some (.string ⟨pt.toArray⟩) := fun W hW => (hW.cell (p := ⟨g, 5, none⟩) hg).trans (hcA 5 _ rfl)
  have y0_5 : ∀ W, Below w.heap.size w W → W.cell? ⟨g2, 5, none⟩ = some (.string ⟨pt.toArray⟩) := fun W hW => (hW.cell (p := ⟨g2, 5, none⟩) hg2).trans (hcB 5 _ rfl)
  have x0_6 : ∀ W, Below w.heap.size w W → W.cell? ⟨g, 6, none⟩ = some (.string ⟨pu.toArray⟩) := fun W hW => (hW.cell (p := ⟨g, 6, none⟩) hg).trans (hcA 6 _ rfl)
  have y0_6 : ∀ W, Below w.heap.size w W → W.cell? ⟨g2, 6, none⟩ = some (.string ⟨pu.toArray⟩) := fun W hW => (hW.cell (p := ⟨g2, 6, none⟩) hg2).trans (hcB 6 _ rfl)
  clear hcA hcB
  go_enter Tryd.func12, Tryd.ntmps12
  go_wp2_with fail
  go_loopw [5] (fun x wr => ∃ z : Int, 0 ≤ z ∧ z ≤ 1 ∧ x = .int .i64 z ∧ Below w.heap.size w wr) (fun x _ => (1 - intOf x).toNat)
  case atStart => exact ⟨0, by omega, by omega, rfl, Below.refl _ _⟩
  case round =>
    obtain ⟨z, hz0, hz1, rfl, hbw⟩ := hrel
    rcases (by omega : z = 0 ∨ z = 1) with rfl | rfl
    · go_wp2_with fail
      refine wp_region_seq (by kernel_rfl) [(0, true), (1, true), (2, true), (3, true), (4, true), (5, true), (6, true), (7, true), (8, true)] (by kernel_rfl) rfl (by kernel_rfl) ?_
      intro w2 hb2
      have B2 := bel_step hbw hb2
      have a0 : ∀ W, Below w2.heap.size w2 W → W.cell? ⟨g, 0, none⟩ = some (.int .i64 pk) := fun W hW => x0_0 W (bel_step B2 hW)
      have b0 : ∀ W, Below w2.heap.size w2 W → W.cell? ⟨g2, 0, none⟩ = some (.int .i64 pk) := fun W hW => y0_0 W (bel_step B2 hW)
      have a1 : ∀ W, Below w2.heap.size w2 W → W.cell? ⟨g, 1, none⟩ = some (.int .i64 pa) := fun W hW => x0_1 W (bel_step B2 hW)
      have b1 : ∀ W, Below w2.heap.size w2 W → W.cell? ⟨g2, 1, none⟩ = some (.int .i64 pa) := fun W hW => y0_1 W (bel_step B2 hW)
      have a2 : ∀ W, Below w2.heap.size w2 W → W.cell? ⟨g, 2, none⟩ = some (.int .i64 pb) := fun W hW => x0_2 W (bel_step B2 hW)
      have b2 : ∀ W, Below w2.heap.size w2 W → W.cell? ⟨g2, 2, none⟩ = some (.int .i64 pb) := fun W hW => y0_2 W (bel_step B2 hW)
      have a3 : ∀ W, Below w2.heap.size w2 W → W.cell? ⟨g, 3, none⟩ = some (.int .i64 pn) := fun W hW => x0_3 W (bel_step B2 hW)
      have b3 : ∀ W, Below w2.heap.size w2 W → W.cell? ⟨g2, 3, none⟩ = some (.int .i64 pn) := fun W hW => y0_3 W (bel_step B2 hW)
      have a4 : ∀ W, Below w2.heap.size w2 W → W.cell? ⟨g, 4, none⟩ = some (.string ⟨ps.toArray⟩) := fun W hW => x0_4 W (bel_step B2 hW)
      have b4 : ∀ W, Below w2.heap.size w2 W → W.cell? ⟨g2, 4, none⟩ = some (.string ⟨ps.toArray⟩) := fun W hW => y0_4 W (bel_step B2 hW)
      have a5 : ∀ W, Below w2.heap.size w2 W → W.cell? ⟨g, 5, none⟩ = some (.string ⟨pt.toArray⟩) := fun W hW => x0_5 W (bel_step B2 hW)
      have b5 : ∀ W, Below w2.heap.size w2 W → W.cell? ⟨g2, 5, none⟩ = some (.string ⟨pt.toArray⟩) := fun W hW => y0_5 W (bel_step B2 hW)
      have a6 : ∀ W, Below w2.heap.size w2 W → W.cell? ⟨g, 6, none⟩ = some (.string ⟨pu.toArray⟩) := fun W hW => x0_6 W (bel_step B2 hW)
      have b6 : ∀ W, Below w2.heap.size w2 W → W.cell? ⟨g2, 6, none⟩ = some (.string ⟨pu.toArray⟩) := fun W hW => y0_6 W (bel_step B2 hW)
      clear x0_0 y0_0 x0_1 y0_1 x0_2 y0_2 x0_3 y0_3 x0_4 y0_4 x0_5 y0_5 x0_6 y0_6
      iterate 9 (refine wpSeq_take (o := ⟨_, _, _, _, _, _⟩) (v := ?_) rfl rfl ?_ ?_; rotate_left; (focus (intro W hW; go_simp; first | done | with_reducible rfl)); simp only [Act.put, List.setIfInBounds_toArray, List.set_cons_zero, List.set_cons_succ])
      refine wpSeq_nil ?_
      go_wp2_with fail
      go_roundw
      case rel => exact ⟨1, by omega, by omega, rfl, B2⟩
      case measure => simp [intOf]
    · go_wp2_with fail
      go_ret
      exact ⟨rfl, hbw⟩
set_option maxHeartbeats 4000000 in
theorem same14_2 (pk pa pb pn : Int) (ps pt pu : List UInt8) (qk qa qb qn : Int) (qs qt qu : List UInt8) (A B : Option Addr) (c d : Nat) (w : World) (hA : Rw w A 2 (evsC [⟨pk, pa, pb, pn, ps, pt, pu⟩, ⟨qk, qa, qb, qn, qs, qt, qu⟩])) (hB : Rw w B 2 (evsC [⟨pk, pa, pb, pn, ps, pt, pu⟩, ⟨qk, qa, qb, qn, qs, qt, qu⟩])) : Calls Tryd.prog 12 #[.slice A 2 c, .slice B 2 d] w (RetTrue w) := by
  rcases hA with h0 | ⟨g, rfl, hg, hcA⟩
  · omega
  rcases hB with h0 | ⟨g2, rfl, hg2, hcB⟩
  · omega
  have x0_0 : ∀ W, Below w.heap.size w W → W.cell? ⟨g, 0, none⟩ = some (.int .i64 pk) := fun W hW => (hW.cell (p := ⟨g, 0, none⟩) hg).trans (hcA 0 _ rfl)
  have y0_0 : ∀ W, Below w.heap.size w W → W.cell? ⟨g2, 0, none⟩ = some (.int .i64 pk) := fun W hW => (hW.cell (p := ⟨g2, 0, none⟩) hg2).trans (hcB 0 _ rfl)
  have x0_1 : ∀ W, Below w.heap.size w W → W.cell? ⟨g, 1, none⟩ = some (.int .i64 pa) := fun W hW => (hW.cell (p := ⟨g, 1, none⟩) hg).trans (hcA 1 _ rfl)
  have y0_1 : ∀ W, Below w.heap.size w W → W.cell? ⟨g2, 1, none⟩ = some (.int .i64 pa) := fun W hW => (hW.cell (p := ⟨g2, 1, none⟩) hg2).trans (hcB 1 _ rfl)
  have x0_2 : ∀ W, Below w.heap.size w W → W.cell? ⟨g, 2, none⟩ = some (.int .i64 pb) := fun W hW => (hW.cell (p := ⟨g, 2, none⟩) hg).trans (hcA 2 _ rfl)
  have y0_2 : ∀ W, Below w.heap.size w W → W.cell? ⟨g2, 2, none⟩ = some (.int .i64 pb) := fun W hW => (hW.cell (p := ⟨g2, 2, none⟩) hg2).trans (hcB 2 _ rfl)
  have x0_3 : ∀ W, Below w.heap.size w W → W.cell? ⟨g, 3, none⟩ = some (.int .i64 pn) := fun W hW => (hW.cell (p := ⟨g, 3, none⟩) hg).trans (hcA 3 _ rfl)
  have y0_3 : ∀ W, Below w.heap.size w W → W.cell? ⟨g2, 3, none⟩ = some (.int .i64 pn) := fun W hW => (hW.cell (p := ⟨g2, 3, none⟩) hg2).trans (hcB 3 _ rfl)
  have x0_4 : ∀ W, Below w.heap.size w W → W.cell? ⟨g, 4, none⟩ = some (.string ⟨ps.toArray⟩) := fun W hW => (hW.cell (p := ⟨g, 4, none⟩) hg).trans (hcA 4 _ rfl)
  have y0_4 : ∀ W, Below w.heap.size w W → W.cell? ⟨g2, 4, none⟩ = some (.string ⟨ps.toArray⟩) := fun W hW => (hW.cell (p := ⟨g2, 4, none⟩) hg2).trans (hcB 4 _ rfl)
  have x0_5 : ∀ W, Below w.heap.size w W → W.cell? ⟨g, 5, none⟩ = some (.string ⟨pt.toArray⟩) := fun W hW => (hW.cell (p := ⟨g, 5, none⟩) hg).trans (hcA 5 _ rfl)
  have y0_5 : ∀ W, Below w.heap.size w W → W.cell? ⟨g2, 5, none⟩ = some (.string ⟨pt.toArray⟩) := fun W hW => (hW.cell (p := ⟨g2, 5, none⟩) hg2).trans (hcB 5 _ rfl)
  have x0_6 : ∀ W, Below w.heap.size w W → W.cell? ⟨g, 6, none⟩ = some (.string ⟨pu.toArray⟩) := fun W hW => (hW.cell (p := ⟨g, 6, none⟩) hg).trans (hcA 6 _ rfl)
  have y0_6 : ∀ W, Below w.heap.size w W → W.cell? ⟨g2, 6, none⟩ = some (.string ⟨pu.toArray⟩) := fun W hW => (hW.cell (p := ⟨g2, 6, none⟩) hg2).trans (hcB 6 _ rfl)
  have x1_0 : ∀ W, Below w.heap.size w W → W.cell? ⟨g, 7, none⟩ = some (.int .i64 qk) := fun W hW => (hW.cell (p := ⟨g, 7, none⟩) hg).trans (hcA 7 _ rfl)
  have y1_0 : ∀ W, Below w.heap.size w W → W.cell? ⟨g2, 7, none⟩ = some (.int .i64 qk) := fun W hW => (hW.cell (p := ⟨g2, 7, none⟩) hg2).trans (hcB 7 _ rfl)
  have x1_1 : ∀ W, Below w.heap.size w W → W.cell? ⟨g, 8, none⟩ = some (.int .i64 qa) := fun W hW => (hW.cell (p := ⟨g, 8, none⟩) hg).trans (hcA 8 _ rfl)
  have y1_1 : ∀ W, Below w.heap.size w W → W.cell? ⟨g2, 8, none⟩ = some (.int .i64 qa) := fun W hW => (hW.cell (p := ⟨g2, 8, none⟩) hg2).trans (hcB 8 _ rfl)
  have x1_2 : ∀ W, Below w.heap.size w W → W.cell? ⟨g, 9, none⟩ = some (.int .i64 qb) := fun W hW => (hW.cell (p := ⟨g, 9, none⟩) hg).trans (hcA 9 _ rfl)
  have y1_2 : ∀ W, Below w.heap.size w W → W.cell? ⟨g2, 9, none⟩ = some (.int .i64 qb) := fun W hW => (hW.cell (p := ⟨g2, 9, none⟩) hg2).trans (hcB 9 _ rfl)
  have x1_3 : ∀ W, Below w.heap.size w W → W.cell? ⟨g, 10, none⟩ = some (.int .i64 qn) := fun W hW => (hW.cell (p := ⟨g, 10, none⟩) hg).trans (hcA 10 _ rfl)
  have y1_3 : ∀ W, Below w.heap.size w W → W.cell? ⟨g2, 10, none⟩ = some (.int .i64 qn) := fun W hW => (hW.cell (p := ⟨g2, 10, none⟩) hg2).trans (hcB 10 _ rfl)
  have x1_4 : ∀ W, Below w.heap.size w W → W.cell? ⟨g, 11, none⟩ = some (.string ⟨qs.toArray⟩) := fun W hW => (hW.cell (p := ⟨g, 11, none⟩) hg).trans (hcA 11 _ rfl)
  have y1_4 : ∀ W, Below w.heap.size w W → W.cell? ⟨g2, 11, none⟩ = some (.string ⟨qs.toArray⟩) := fun W hW => (hW.cell (p := ⟨g2, 11, none⟩) hg2).trans (hcB 11 _ rfl)
  have x1_5 : ∀ W, Below w.heap.size w W → W.cell? ⟨g, 12, none⟩ = some (.string ⟨qt.toArray⟩) := fun W hW => (hW.cell (p := ⟨g, 12, none⟩) hg).trans (hcA 12 _ rfl)
  have y1_5 : ∀ W, Below w.heap.size w W → W.cell? ⟨g2, 12, none⟩ = some (.string ⟨qt.toArray⟩) := fun W hW => (hW.cell (p := ⟨g2, 12, none⟩) hg2).trans (hcB 12 _ rfl)
  have x1_6 : ∀ W, Below w.heap.size w W → W.cell? ⟨g, 13, none⟩ = some (.string ⟨qu.toArray⟩) := fun W hW => (hW.cell (p := ⟨g, 13, none⟩) hg).trans (hcA 13 _ rfl)
  have y1_6 : ∀ W, Below w.heap.size w W → W.cell? ⟨g2, 13, none⟩ = some (.string ⟨qu.toArray⟩) := fun W hW => (hW.cell (p := ⟨g2, 13, none⟩) hg2).trans (hcB 13 _ rfl)
  clear hcA hcB
  go_enter Tryd.func12, Tryd.ntmps12
  go_wp2_with fail
  go_loopw [5] (fun x wr => ∃ z : Int, 0 ≤ z ∧ z ≤ 2 ∧ x = .int .i64 z ∧ Below w.heap.size w wr) (fun x _ => (2 - intOf x).toNat)
  case atStart => exact ⟨0, by omega, by omega, rfl, Below.refl _ _⟩
  case round =>
    obtain ⟨z, hz0, hz1, rfl, hbw⟩ := hrel
    rcases (by omega : z = 0 ∨ z = 1 ∨ z = 2) with rfl | rfl | rfl
    · go_wp2_with fail
      refine wp_region_seq (by kernel_rfl) [(0, true), (1, true), (2, true), (3, true), (4, true), (5, true), (6, true), (7, true), (8, true)] (by kernel_rfl) rfl (by kernel_rfl) ?_
      intro w2 hb2
      have B2 := bel_step hbw hb2
      have a0 : ∀ W, Below w2.heap.size w2 W → W.cell? ⟨g, 0, none⟩ = some (.int .i64 pk) := fun W hW => x0_0 W (bel_step B2 hW)
      have b0 : ∀ W, Below w2.heap.size w2 W → W.cell? ⟨g2, 0, none⟩ = some (.int .i64 pk) := fun W hW => y0_0 W (bel_step B2 hW)
      have a1 : ∀ W, Below w2.heap.size w2 W → W.cell? ⟨g, 1, none⟩ = some (.int .i64 pa) := fun W hW => x0_1 W (bel_step B2 hW)
      have b1 : ∀ W, Below w2.heap.size w2 W → W.cell? ⟨g2, 1, none⟩ = some (.int .i64 pa) := fun W hW => y0_1 W (bel_step B2 hW)
      have a2 : ∀ W, Below w2.heap.size w2 W → W.cell? ⟨g, 2, none⟩ = some (.int .i64 pb) := fun W hW => x0_2 W (bel_step B2 hW)
      have b2 : ∀ W, Below w2.heap.size w2 W → W.cell? ⟨g2, 2, none⟩ = some (.int .i64 pb) := fun W hW => y0_2 W (bel_step B2 hW)
      have a3 : ∀ W, Below w2.heap.size w2 W → W.cell? ⟨g, 3, none⟩ = some (.int .i64 pn) := fun W hW => x0_3 W (bel_step B2 hW)
      have b3 : ∀ W, Below w2.heap.size w2 W → W.cell? ⟨g2, 3, none⟩ = some (.int .i64 pn) := fun W hW => y0_3 W (bel_step B2 hW)
      have a4 : ∀ W, Below w2.heap.size w2 W → W.cell? ⟨g, 4, none⟩ = some (.string ⟨ps.toArray⟩) := fun W hW => x0_4 W (bel_step B2 hW)
      have b4 : ∀ W, Below w2.heap.size w2 W → W.cell? ⟨g2, 4, none⟩ = some (.string ⟨ps.toArray⟩) := fun W hW => y0_4 W (bel_step B2 hW)
      have a5 : ∀ W, Below w2.heap.size w2 W → W.cell? ⟨g, 5, none⟩ = some (.string ⟨pt.toArray⟩) := fun W hW => x0_5 W (bel_step B2 hW)
      have b5 : ∀ W, Below w2.heap.size w2 W → W.cell? ⟨g2, 5, none⟩ = some (.string ⟨pt.toArray⟩) := fun W hW => y0_5 W (bel_step B2 hW)
      have a6 : ∀ W, Below w2.heap.size w2 W → W.cell? ⟨g, 6, none⟩ = some (.string ⟨pu.toArray⟩) := fun W hW => x0_6 W (bel_step B2 hW)
      have b6 : ∀ W, Below w2.heap.size w2 W → W.cell? ⟨g2, 6, none⟩ = some (.string ⟨pu.toArray⟩) := fun W hW => y0_6 W (bel_step B2 hW)
      clear x0_0 y0_0 x0_1 y0_1 x0_2 y0_2 x0_3 y0_3 x0_4 y0_4 x0_5 y0_5 x0_6 y0_6 x1_0 y1_0 x1_1 y1_1 x1_2 y1_2 x1_3 y1_3 x1_4 y1_4 x1_5 y1_5 x1_6 y1_6
      iterate 9 (refine wpSeq_take (o := ⟨_, _, _, _, _, _⟩) (v := ?_) rfl rfl ?_ ?_; rotate_left; (focus (intro W hW; go_simp; first | done | with_reducible rfl)); simp only [Act.put, List.setIfInBounds_toArray, List.set_cons_zero, List.set_cons_succ])
      refine wpSeq_nil ?_
      go_wp2_with fail
      go_roundw
      case rel => exact ⟨1, by omega, by omega, rfl, B2⟩
      case measure => simp [intOf]
    · go_wp2_with fail
      refine wp_region_seq (by kernel_rfl) [(0, true), (1, true), (2, true), (3, true), (4, true), (5, true), (6, true), (7, true), (8, true)] (by kernel_rfl) rfl (by kernel_rfl) ?_
      intro w2 hb2
      have B2 := bel_step hbw hb2
      have a0 : ∀ W, Below w2.heap.size w2 W → W.cell? ⟨g, 7, none⟩ = some (.int .i64 qk) := fun W hW => x1_0 W (bel_step B2 hW)
      have b0 : ∀ W, Below w2.heap.size w2 W → W.cell? ⟨g2, 7, none⟩ = some (.int .i64 qk) := fun W hW => y1_0 W (bel_step B2 hW)
      have a1 : ∀ W, Below w2.heap.size w2 W → W.cell? ⟨g, 8, none⟩ = some (.int .i64 qa) := fun W hW => x1_1 W (bel_step B2 hW)
      have b1 : ∀ W, Below w2.heap.size w2 W → W.cell? ⟨g2, 8, none⟩ = some (.int .i64 qa) := fun W hW => y1_1 W (bel_step B2 hW)
      have a2 : ∀ W, Below w2.heap.size w2 W → W.cell? ⟨g, 9, none⟩ = some (.int .i64 qb) := fun W hW => x1_2 W (bel_step B2 hW)
      have b2 : ∀ W, Below w2.heap.size w2 W → W.cell? ⟨g2, 9, none⟩ = some (.int .i64 qb) := fun W hW => y1_2 W (bel_step B2 hW)
      have a3 : ∀ W, Below w2.heap.size w2 W → W.cell? ⟨g, 10, none⟩ = some (.int .i64 qn) := fun W hW => x1_3 W (bel_step B2 hW)
      have b3 : ∀ W, Below w2.heap.size w2 W → W.cell? ⟨g2, 10, none⟩ = some (.int .i64 qn) := fun W hW => y1_3 W (bel_step B2 hW)
      have a4 : ∀ W, Below w2.heap.size w2 W → W.cell? ⟨g, 11, none⟩ = some (.string ⟨qs.toArray⟩) := fun W hW => x1_4 W (bel_step B2 hW)
      have b4 : ∀ W, Below w2.heap.size w2 W → W.cell? ⟨g2, 11, none⟩ = some (.string ⟨qs.toArray⟩) := fun W hW => y1_4 W (bel_step B2 hW)
      have a5 : ∀ W, Below w2.heap.size w2 W → W.cell? ⟨g, 12, none⟩ = some (.string ⟨qt.toArray⟩) := fun W hW => x1_5 W (bel_step B2 hW)
      have b5 : ∀ W, Below w2.heap.size w2 W → W.cell? ⟨g2, 12, none⟩ = some (.string ⟨qt.toArray⟩) := fun W hW => y1_5 W (bel_step B2 hW)
      have a6 : ∀ W, Below w2.heap.size w2 W → W.cell? ⟨g, 13, none⟩ = some (.string ⟨qu.toArray⟩) := fun W hW => x1_6 W (bel_step B2 hW)
      have b6 : ∀ W, Below w2.heap.size w2 W → W.cell? ⟨g2, 13, none⟩ = some (.string ⟨qu.toArray⟩) := fun W hW => y1_6 W (bel_step B2 hW)
      clear x0_0 y0_0 x0_1 y0_1 x0_2 y0_2 x0_3 y0_3 x0_4 y0_4 x0_5 y0_5 x0_6 y0_6 x1_0 y1_0 x1_1 y1_1 x1_2 y1_2 x1_3 y1_3 x1_4 y1_4 x1_5 y1_5 x1_6 y1_6
      iterate 9 (refine wpSeq_take (o := ⟨_, _, _, _, _, _⟩) (v := ?_) rfl rfl ?_ ?_; rotate_left; (focus (intro W hW; go_simp; first | done | with_reducible rfl)); simp only [Act.put, List.setIfInBounds_toArray, List.set_cons_zero, List.set_cons_succ])
      refine wpSeq_nil ?_
      go_wp2_with fail
      go_roundw
      case rel => exact ⟨2, by omega, by omega, rfl, B2⟩
      case measure => simp [intOf]
    · go_wp2_with fail
      go_ret
      exact ⟨rfl, hbw⟩
theorem same14_any (l : List Ev) (hl : l.length ≤ 2) (A B : Option Addr) (m m2 c d : Nat) (w : World) (hm : m = l.length) (hm2 : m2 = l.length) (hA : Rw w A m (evsC l)) (hB : Rw w B m2 (evsC l)) : Calls Tryd.prog 12 #[.slice A m c, .slice B m2 d] w (RetTrue w) := by
  subst hm
  subst hm2
  match l with
  | [] => exact same14_0 A B c d w hA hB
  | [⟨p0, p1, p2, p3, p4, p5, p6⟩] => exact same14_1 p0 p1 p2 p3 p4 p5 p6 A B c d w hA hB
  | [⟨p0, p1, p2, p3, p4, p5, p6⟩, ⟨q0, q1, q2, q3, q4, q5, q6⟩] => exact same14_2 p0 p1 p2 p3 p4 p5 p6 q0 q1 q2 q3 q4 q5 q6 A B c d w hA hB
  | _ :: _ :: _ :: _ => simp at hl
def large16 (s t : List UInt8) : Bool := decide (2000 < s.length) || decide (2000 < t.length)
theorem large16_any (v k a b n : Int) (s t : List UInt8) (w : World) (hs : s.length ≤ 9223372036854775807) (ht : t.length ≤ 9223372036854775807) : Calls Tryd.prog 4 #[.agg (OC v k a b n s t)] w fun e w' => e = .returned (.bool (large16 s t)) ∧ Below w.heap.size w w' := by
  have B0 := bel_alloc (Below.refl w.heap.size w) (.cells (OC v k a b n s t) 23)
  have HR : Hid (large16 s t = (decide (2000 < s.length) || decide (2000 < t.length))) := rfl
  simp only [OC] at *
  by_cases h1 : 2000 < s.length
  · have d1 : decide (2000 < (s.length : Int)) = true := by simp; omega
    have d1' : decide (2000 < s.length) = true := by simpa using h1
    rw [d1', Bool.true_or] at HR
    clear d1' h1
    go_enter Tryd.func4, Tryd.ntmps4
    go_wp2_with fail
    go_ret
    exact ⟨by rw [HR.out]; rfl, B0⟩
  · have d1 : decide (2000 < (s.length : Int)) = false := by simp; omega
    have d1' : decide (2000 < s.length) = false := by simpa using h1
    rw [d1', Bool.false_or] at HR
    clear d1' h1
    go_enter Tryd.func4, Tryd.ntmps4
    go_wp2_with fail
    go_ret
    exact ⟨by rw [HR.out]; simp; omega, B0⟩
theorem large16_no {s t : List UInt8} (h : large16 s t = false) : s.length ≤ 2000 ∧ t.length ≤ 2000 := by
  unfold large16 at h
  simp at h
  omega
/-! ### the events of bytes of any format -/
def eventsL (l : List UInt8) : Option (List Ev) := match getE l with
  | some e => some [e]
  | none => match getO l with
    | some o => some (thirdO o)
    | none => none
theorem getE_ok {l : List UInt8} {e : Ev} (h : getE l = some e) : e.ok = true := by
  unfold getE at h
  split at h
  · split at h
    · rename_i hh
      injection h with h
      rw [← h]
      exact hh.2.2
    · cases h
  · cases h
theorem getO_ok {l : List UInt8} {o : Ol} (h : getO l = some o) : o.ok = true := by
  unfold getO at h
  split at h
  · rename_i hh
    injection h with h
    rw [← h]
    exact hh.2.2
  · cases h
def RetEvs (w : World) (r : Option (List Ev)) (f : Bool → Value) (e : Ending) (w' : World) : Prop := match r with
  | none => e = .returned (.tuple #[.slice none 0 0, f false]) ∧ Below w.heap.size w w'
  | some l => ∃ A c, e = .returned (.tuple #[.slice A l.length c, f true]) ∧ w'.ownsRow w.heap.size 39 7 (.slice A l.length c) l.length (evsC l) ∧ Below w.heap.size w w'
def okE (b : Bool) : Value := .int .i64 (if b then 0 else 150)
def okB (b : Bool) : Value := .bool b
set_option maxHeartbeats 4000000 in
theorem events_any (A : Option Addr) (nn c : Nat) (l : List UInt8) (w : World) (hn : nn ≤ 20000) (hB : Bs w A nn l) (hN : Nms w) : Calls Tryd.prog 11 #[.slice A nn c] w (RetEvs w (eventsL l) okE) := by
  have HG := Lib.hid (fun W h => get15_any A nn c l W hn h)
  have HO := Lib.hid (fun W h k => oldGet_any A nn c l W hn h k)
  unfold eventsL
  cases hE : getE l with
  | some ev =>
    obtain ⟨k, a, b, n, s, t, u⟩ := ev
    rw [hE] at HG
    simp only [getV, evV] at HG
    clear hE HO
    simp only
    go_enter Tryd.func11, Tryd.ntmps11
    go_wp2_with fail
    (with_reducible refine (HG.out _ hB).mono ?_)
    rintro e w1 ⟨rfl, hb1⟩
    have he1 := Blk.new w1 39 #[.int .i64 k, .int .i64 a, .int .i64 b, .int .i64 n, .string ⟨s.toArray⟩, .string ⟨t.toArray⟩, .string ⟨u.toArray⟩]
    have B1 := bel_alloc hb1 (.cells #[.int .i64 k, .int .i64 a, .int .i64 b, .int .i64 n, .string ⟨s.toArray⟩, .string ⟨t.toArray⟩, .string ⟨u.toArray⟩] 39)
    have hs1 := hb1.size
    go_wp2_with fail
    go_ret2
    have q := own_lit (w1.alloc (.cells #[.int .i64 k, .int .i64 a, .int .i64 b, .int .i64 n, .string ⟨s.toArray⟩, .string ⟨t.toArray⟩, .string ⟨u.toArray⟩] 39)) 39 7 1 (evC ⟨k, a, b, n, s, t, u⟩) #[.int .i64 k, .int .i64 a, .int .i64 b, .int .i64 n, .string ⟨s.toArray⟩, .string ⟨t.toArray⟩, .string ⟨u.toArray⟩] rfl rfl (by omega) B1.size
    exact ⟨_, _, rfl, by simpa [evsC] using q, bel_alloc B1 _⟩
  | none =>
    rw [hE] at HG
    simp only [getV, evV] at HG
    clear hE
    have hz := fun (w1 : World) (hb1 : Below w.heap.size w w1) => bel_alloc hb1 (.cells #[.int .i64 0, .int .i64 0, .int .i64 0, .int .i64 0, .string ⟨#[]⟩, .string ⟨#[]⟩, .string ⟨#[]⟩] 39)
    have HZ := Lib.hid hz
    clear hz
    cases hO : getO l with
    | none =>
      rw [hO] at HO
      simp only [getOV, OC] at HO
      clear hO
      simp only
      go_enter Tryd.func11, Tryd.ntmps11
      go_wp2_with fail
      (with_reducible refine (HG.out _ hB).mono ?_)
      rintro e w1 ⟨rfl, hb1⟩
      have B1 := HZ.out w1 hb1
      have hB1 := hB.below B1
      have hN1 := hN.below B1
      clear hb1
      go_wp2_with fail
      (with_reducible refine (HO.out _ hB1 hN1).mono ?_)
      rintro e w2 ⟨rfl, hb2⟩
      have B2 := bel_step B1 hb2
      go_wp2_with fail
      go_ret2
      exact ⟨rfl, bel_alloc B2 _⟩
    | some o =>
      simp only
      have hok := olF (getO_ok hO)
      have hs := hok.s
      have ht := hok.t
      have HT := Lib.hid (fun W h => third_any o W (by omega) (by omega) h)
      generalize thirdO o = L at *
      rw [hO] at HO
      obtain ⟨v, k, a, b, n, s, t⟩ := o
      simp only [getOV, OC] at HO HT
      clear hO hok
      go_enter Tryd.func11, Tryd.ntmps11
      go_wp2_with fail
      (with_reducible refine (HG.out _ hB).mono ?_)
      rintro e w1 ⟨rfl, hb1⟩
      have B1 := HZ.out w1 hb1
      have hB1 := hB.below B1
      have hN1 := hN.below B1
      clear hb1
      go_wp2_with fail
      (with_reducible refine (HO.out _ hB1 hN1).mono ?_)
      rintro e w2 ⟨rfl, hb2⟩
      have B2 := bel_alloc (bel_step B1 hb2) (.cells #[.int .i64 v, .int .i64 k, .int .i64 a, .int .i64 b, .int .i64 n, .string ⟨s.toArray⟩, .string ⟨t.toArray⟩] 23)
      have hN2 := hN.below B2
      clear hb2
      go_wp2_with fail
      (with_reducible refine (HT.out _ hN2).mono ?_)
      rintro e w3 ⟨A3, c3, rfl, ho3, hb3⟩
      go_wp2_with fail
      go_ret2
      have q := own_mono ho3 B2.size
      exact ⟨A3, c3, rfl, q, bel_step B2 hb3⟩
end Go.Proofs.YtedliepfaibefaaDoor
