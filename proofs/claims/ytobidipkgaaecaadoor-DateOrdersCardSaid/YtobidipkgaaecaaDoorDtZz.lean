/-
  Dates: DateReads, joined.
-/
import Derived.Test.YtobidipkgaaecaaDoorDtT
import Derived.Test.YtobidipkgaaecaaDoorDtO
namespace Go.Proofs.YtobidipkgaaecaaDoor
open Go.RowKit Go.Nst
set_option maxRecDepth 100000
set_option linter.unusedVariables false
set_option linter.unusedSimpArgs false

theorem dateReads_any (s : ByteArray) (M : Int) (w : World) (hs : s.size ≤ 9223372036854775807) (hM : MM M w) : Calls Tryd.prog 5 #[.string s] w (RetTrue w) := by
  have h := dateReads_walk (bl s) M w hM (by rw [bl_len]; exact hs) (fun S W hS => mail4_any S W hS) (fun S W hS => by
    have := refAny4_any S W hS (fun W => web4_any S W hS)
    rw [← any_same] at this
    exact this)
  rw [bl_mk] at h
  exact h
end Go.Proofs.YtobidipkgaaecaaDoor
