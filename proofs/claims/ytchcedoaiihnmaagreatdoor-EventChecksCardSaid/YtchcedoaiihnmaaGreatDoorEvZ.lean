/-
  Events: what a row's list and the world's shape give.
-/
import Derived.Test.YtchcedoaiihnmaaGreatDoorEvS
import Derived.Test.YtchcedoaiihnmaaGreatDoorNms
import Derived.Shelf.Vars
namespace Go.Proofs.YtchcedoaiihnmaaGreatDoor
open Go.RowKit Go.Nst
set_option maxRecDepth 100000
set_option linter.unusedVariables false
set_option linter.unusedSimpArgs false

theorem laid_rest {P : Program} {x : String × DataW Unit} {rest : List (String × DataW Unit)} {W : World} (h : laidMet P (x :: rest) W) : laidMet P rest W := by
  obtain ⟨ps, ⟨g, t, cs, fuel, p, q, h1, h2, h3, h4, h5, rfl⟩, hnd, hall⟩ := h
  exact ⟨q, h5, (List.nodup_append.1 hnd).2.1, fun b off hm => hall b off (List.mem_append.2 (.inr hm))⟩
theorem evw_of {W : World} {x1 x2 x4 : String × DataW Unit} {rest : List (String × DataW Unit)} (h : laidMet Tryz.prog (x1 :: x2 :: ("internal/strconv.uint64pow10", Lib.tabData .u64 Lib.pow10Tab) :: x4 :: ("newsstand/event.names", .agg ([nameL 0, nameL 1, nameL 2, nameL 3, nameL 4, nameL 5, nameL 6, nameL 7, nameL 8, nameL 9, nameL 10, nameL 11, nameL 12, nameL 13].map fun s => .lit (.string s))) :: rest) W) (hs : W.ShapedOpen Tryz.prog) : ∃ m, EvW m W := by
  obtain ⟨m, hm⟩ : ∃ m, W.cell? ⟨2, 0, none⟩ = some (.int .i64 m) := cell_of_shapedOpen_int (zero := #[.int .i64 0]) (t := 3) hs (of_decide_eq_true (by kernel_rfl)) (by kernel_rfl) rfl (by kernel_rfl) (by kernel_rfl) Tryz.underlying3
  refine ⟨m, hm, ?_, nms_of (laid_rest (laid_rest (laid_rest (laid_rest h))))⟩
  exact Lib.tabIs_of_head (g := 1) (by kernel_rfl) (show (Tryz.prog.globals[1]?).map (·.type) = some 95 by kernel_rfl) Tryz.underlying95 Tryz.underlying78 (by kernel_rfl) (by kernel_rfl) (laid_rest (laid_rest h))
end Go.Proofs.YtchcedoaiihnmaaGreatDoor
