/-
  Words, clones and the reader of bytes.
-/
import Derived.Test.YtgklbejnbplbgaaDoorRows
import Derived.Test.YtgklbejnbplbgaaDoorWords
namespace Go.Proofs.YtgklbejnbplbgaaDoor
open Go.RowKit Go.Nst
set_option maxRecDepth 100000

theorem iBytes : Info Tryd.prog 22 5 (.int .u8 0) 1 1 := Info.mk_ Tryd.underlying22 (by kernel_rfl) rfl (by omega)

/-- a word's bytes -/
def wordL (s : Nat) : List UInt8 := [UInt8.ofNat (s % 256), UInt8.ofNat (s / 256 % 256), UInt8.ofNat (s / 65536 % 256), UInt8.ofNat (s / 16777216 % 256)]
theorem wordL_cells (s : Nat) (hs : s < 4294967296) : [Value.int .u8 ((s : Int) % 256), .int .u8 ((s : Int) / 256 % 256), .int .u8 ((s : Int) / 65536 % 256), .int .u8 ((s : Int) / 16777216)] = bv (wordL s) := by
  have h : s / 16777216 % 256 = s / 16777216 := by omega
  simp [bv, wordL, h]

theorem word_any (s : Nat) (hs : s < 4294967296) (w : World) :
    Calls Tryd.prog 31 #[.int .u32 s] w (RetB w (wordL s)) := by
  have HC := Lib.hid (wordL_cells s hs)
  go_enter Tryd.func31, Tryd.ntmps31
  go_wp2_with fail
  try go_ret
  exact RetB.of rfl (lit_made w (wordL s) _ HC.out (by simp [wordL])) ((Below.refl _ _).alloc (Nat.le_refl _) _)
theorem refWord_any (s : Nat) (hs : s < 4294967296) (w : World) :
    Calls Tryd.prog 35 #[.int .u32 s] w (RetB w (wordL s)) := by
  have HC := Lib.hid (wordL_cells s hs)
  go_enter Tryd.func35, Tryd.ntmps35
  go_wp2_with fail
  try go_ret
  exact RetB.of rfl (lit_made w (wordL s) _ HC.out (by simp [wordL])) ((Below.refl _ _).alloc (Nat.le_refl _) _)

theorem bs_none {w : World} {n : Nat} {l : List UInt8} (h : Bs w none n l) : n = 0 ∧ l = [] := by
  have hl := h.len
  rcases Nat.eq_zero_or_pos n with h0 | h0
  · exact ⟨h0, List.eq_nil_of_length_eq_zero (by omega)⟩
  · obtain ⟨_, _, _, e, _⟩ := h.at h0
    cases e

theorem clone_any (A : Option Addr) (n c : Nat) (l : List UInt8) (w : World) (hn : n ≤ 140737488355328) (hB : Bs w A n l) :
    Calls Tryd.prog 34 #[.slice A n c] w (RetB w l) := by
  cases A with
  | none =>
    obtain ⟨rfl, rfl⟩ := bs_none hB
    have he := fun W => Lib.run_eql_slice_nil (P := Tryd.prog) W 22 5 none 0 c 0 0 Tryd.underlying22
    go_enter Tryd.func34, Tryd.ntmps34
    go_wp2_with fail
    try go_ret
    exact RetB.of rfl Ow.nil (Below.refl _ _)
  | some ad =>
    have he := fun W => Lib.run_eql_slice_nil (P := Tryd.prog) W 22 5 (some ad) n c 0 0 Tryd.underlying22
    simp only [Option.isNone_some] at he
    have HO := Lib.hid (Ow.made w [] #[] rfl (by simp [maxLen]) (Nat.le_refl _))
    have HB := Lib.hid (hB.alloc (.cells #[] 5))
    go_enter Tryd.func34, Tryd.ntmps34
    go_wp2_with (at_builtin; refine wpList_appB _ iBytes rfl rfl rfl HO.out rfl HB.out (by simp; omega) (by simp) ?_; intro A' c' w' ho hb _ _; simp only [Nat.zero_add, List.nil_append] at ho)
    try go_ret
    refine RetB.of rfl ho ?_
    exact ((Below.refl _ _).alloc (Nat.le_refl _) _).trans hb
end Go.Proofs.YtgklbejnbplbgaaDoor
