/-
  Contracts of utf at texts as lists; what is clean stays so; lengths.
-/
import Derived.Test.YtedliepfaibefaaGreatDoorUt2
namespace Go.Proofs.YtedliepfaibefaaGreatDoor
open Go.RowKit Go.Nst
set_option maxRecDepth 100000
set_option linter.unusedVariables false
set_option linter.unusedSimpArgs false

theorem clean_l (l : List UInt8) (w : World) (hl : l.length ≤ 1000000) : Calls Tryz.prog 103 #[.string ⟨l.toArray⟩] w (RetS w (cleanT l)) := by
  have := clean_any ⟨l.toArray⟩ w (by rw [size_of]; exact hl)
  rwa [bl_of] at this
theorem fold_l (l : List UInt8) (w : World) (hl : l.length ≤ 1000000) : Calls Tryz.prog 115 #[.string ⟨l.toArray⟩] w (RetS w (foldT l)) := by
  have := fold_any5 ⟨l.toArray⟩ w (by rw [size_of]; exact hl)
  rwa [bl_of] at this
theorem right_l (l : List UInt8) (w : World) (hl : l.length ≤ 1000000) (b : Bool) (hb : rightL l = b) : Calls Tryz.prog 102 #[.string ⟨l.toArray⟩] w fun e w' => e = .returned (.bool b) ∧ Below w.heap.size w w' := by
  have := right_any ⟨l.toArray⟩ w (by rw [size_of]; exact hl)
  rwa [bl_of, hb] at this
theorem cut_l (l : List UInt8) (n : Int) (w : World) (hl : l.length ≤ 1000000) (h0 : -9223372036854775808 ≤ n) (h1 : n ≤ 9223372036854775807) : Calls Tryz.prog 145 #[.string ⟨l.toArray⟩, .int .i64 n] w (RetS w (cutT l n)) := by
  have := cut_any ⟨l.toArray⟩ n w (by rw [size_of]; exact hl) h0 h1
  rwa [bl_of] at this
theorem cleanT_again (l : List UInt8) : cleanT (cleanT l) = cleanT l := by
  unfold cleanT
  rw [runes_put_ok _ (clean_ok _ (runes_ok l)), clean_again]
theorem foldT_again (l : List UInt8) : foldT (foldT l) = foldT l := by
  unfold foldT
  rw [runes_put_ok _ (foldC_ok _ (runes_ok l)), List.map_map]
  congr 2
  funext c
  exact foldC_again c
theorem foldT_count (l : List UInt8) : (runesL (foldT l)).length = (runesL l).length := by
  rw [← runesI_len, ← runesI_len]
  unfold foldT
  rw [runes_put_ok _ (foldC_ok _ (runes_ok l)), List.length_map]
theorem cleanT_len (l : List UInt8) : (cleanT l).length ≤ 8 * l.length := by
  unfold cleanT
  have h1 := putR_len (cleanR (runesI l))
  have h2 := cleanF_len (runesI l)
  have h3 := runesI_le l
  have h4 : (cleanR (runesI l)).length = (cleanF (runesI l)).1.length := rfl
  omega
theorem foldT_len (l : List UInt8) : (foldT l).length ≤ 4 * l.length := by
  unfold foldT
  have h1 := putR_len ((runesI l).map foldC)
  rw [List.length_map] at h1
  have h3 := runesI_le l
  omega

theorem cutT_len (l : List UInt8) (n : Int) : (cutT l n).length ≤ l.length := by unfold cutT; rw [List.length_take]; omega
end Go.Proofs.YtedliepfaibefaaGreatDoor
