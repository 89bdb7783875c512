/-
  crc.Seal and the reference's.
-/
import Derived.Test.YtgklbejnbplbgaaDoorCrcB
import Derived.Test.YtgklbejnbplbgaaDoorNumB
import Derived.Test.YtgklbejnbplbgaaDoorRead2
namespace Go.Proofs.YtgklbejnbplbgaaDoor
open Go.RowKit Go.Nst
set_option maxRecDepth 100000

/-- bytes with their sum behind them -/
def sealL (l : List UInt8) : List UInt8 := l ++ wordL (crcSum l)

theorem two_parts (w : World) (t : TypeId) (p q : Part) : Reads (w.alloc (.cells #[.slice p.A p.n p.c, .slice q.A q.n q.c] t)) (w.heap.size + 1) 1 (some ⟨w.heap.size, 0, none⟩) 2 ([p, q].map Part.val) := by
  refine ⟨rfl, fun _ => ⟨_, rfl, by simp, fun j u hu => ?_⟩⟩
  rw [add_lit, Nat.zero_add, (Blk.new w t _).cell]
  match j, hu with
  | 0, hu => simpa [Part.val] using hu
  | 1, hu => simpa [Part.val] using hu
  | k + 2, hu => simp at hu

theorem RetB.base {w w1 : World} {l : List UInt8} {e : Ending} {w' : World} (h : RetB w1 l e w') (hb : Below w.heap.size w w1) : RetB w l e w' := by
  obtain ⟨A, n, c, rfl, h1, h2⟩ := h
  exact ⟨A, n, c, rfl, h1.mono hb.size, hb.trans (h2.mono hb.size)⟩

theorem seal_any (A : Option Addr) (n c : Nat) (l : List UInt8) (w : World) (hn : n ≤ 140737488350000) (hB : Bs w A n l) (ht : Tab w) :
    Calls Tryd.prog 16 #[.slice A n c] w (RetB w (sealL l)) := by
  have HS := Lib.hid (sum_any A n c l w (by omega) hB ht)
  have hsl := crcSum_lt l
  have HE : Hid (sealL l = l ++ wordL (crcSum l)) := rfl
  generalize crcSum l = s at *
  go_enter Tryd.func16, Tryd.ntmps16
  go_wp2_with fail
  refine HS.out.mono ?_
  rintro e w0 ⟨rfl, rfl⟩
  go_wp2_with fail
  refine (word_any s hsl w).mono ?_
  rintro e w1 ⟨A1, n1, c1, rfl, ho1, hb1⟩
  have hn1 : n1 = 4 := by have := ho1.len; simpa [wordL] using this.symm
  subst hn1
  have HR := Lib.hid (two_parts w1 22 ⟨A, n, c, l⟩ ⟨A1, 4, c1, wordL s⟩)
  go_wp2_with fail
  refine (concat_any _ 2 _ [⟨A, n, c, l⟩, ⟨A1, 4, c1, wordL s⟩] _ (by omega) ?_ ?_ ?_).mono ?_
  · simpa using HR.out
  · intro p hp
    simp only [List.mem_cons, List.not_mem_nil, or_false] at hp
    rcases hp with rfl | rfl
    · exact (hB.below hb1).alloc _
    · exact ho1.bs.alloc _
  · simp [partSum]; omega
  · intro e w2 hr
    have hr2 := RetB.base hr (hb1.alloc hb1.size _)
    obtain ⟨A2, n2, c2, rfl, ho2, hb2⟩ := hr2
    go_wp2_with fail
    try go_ret
    rw [HE.out]
    refine RetB.of rfl ?_ hb2
    simpa [partBytes] using ho2
end Go.Proofs.YtgklbejnbplbgaaDoor
