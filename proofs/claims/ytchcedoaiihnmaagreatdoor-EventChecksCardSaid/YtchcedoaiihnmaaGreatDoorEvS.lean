/-
  Events shown, the code's side: quote, Show, Item.
-/
import Derived.Test.YtchcedoaiihnmaaGreatDoorEvP
import Derived.Test.YtchcedoaiihnmaaGreatDoorNam
import Derived.Test.YtchcedoaiihnmaaGreatDoorOrd
import Derived.Test.YtchcedoaiihnmaaGreatDoorShelf
import Derived.Lib.AppendIntMem
import Derived.Lib.ItoaLen
import Derived.Lib.LaidTab
namespace Go.Proofs.YtchcedoaiihnmaaGreatDoor
open Go.RowKit Go.Nst
set_option maxRecDepth 100000
set_option linter.unusedVariables false
set_option linter.unusedSimpArgs false

theorem ba_app3 (a b : List UInt8) : (ByteArray.mk a.toArray) ++ (ByteArray.mk b.toArray) = ⟨(a ++ b).toArray⟩ := by
  apply ByteArray.ext
  simp [ByteArray.data_append]
/-- the cell of internal/bytealg.MaxLen, the table of the powers of ten, the kinds' names -/
structure EvW (m : Int) (w : World) : Prop where
  max : w.cell? ⟨2, 0, none⟩ = some (.int .i64 m)
  tab : Lib.TabIs Tryz.prog w "internal/strconv.uint64pow10" .u64 Lib.pow10Tab
  nms : Nms w
theorem tab_keep {name : String} {k : IntKind} {zs : List Int} {g : Nat} {w W : World} (hg : Tryz.prog.globalNamed name = some g) (h : Lib.TabIs Tryz.prog w name k zs) (hb : Below w.heap.size w W) : Lib.TabIs Tryz.prog W name k zs := by
  unfold Lib.TabIs World.var? at *
  rw [hg] at h ⊢
  simp only [Option.bind_some] at h ⊢
  have hlt : g < w.heap.size := by
    rcases Nat.lt_or_ge g w.heap.size with h1 | h1
    · exact h1
    · rw [Array.getElem?_eq_none h1] at h
      simp at h
  rw [hb.block g hlt]
  exact h
theorem EvW.keep {m : Int} {w W : World} (h : EvW m w) (hb : Below w.heap.size w W) : EvW m W :=
  ⟨(hb.cell (p := ⟨2, 0, none⟩) (World.block_lt_of_cell? w _ h.max)).trans h.max, tab_keep (g := 1) (by kernel_rfl) h.tab hb, h.nms.below hb⟩
theorem countB_le (s t : ByteArray) : Lib.countB s t ≤ s.size + 1 := by
  have := Lib.count_le s.data.toList t.data.toList
  simpa [Lib.countB] using this
theorem quote14_any (l : List UInt8) (m : Int) (w : World) (hl : l.length ≤ 20000) (hM : EvW m w) : Calls Tryz.prog 31 #[.string ⟨l.toArray⟩] w fun e w' => e = .returned (.string ⟨(quoteL l).toArray⟩) ∧ Below w.heap.size w w' := by
  have h1 := countB_le ⟨l.toArray⟩ ⟨#[92]⟩
  rw [size_of] at h1
  have H1 := Lib.hid (Tryz.strings_ReplaceAll ⟨l.toArray⟩ ⟨#[92]⟩ ⟨#[92, 92]⟩ m w (by rw [size_of]; omega) hM.max (by decide) (by rw [size_of]; have e : (ByteArray.mk #[92, 92]).size = 2 := rfl; rw [e]; omega))
  have hq : (Lib.replaceAll l [92] [92, 92]).length ≤ 60000 := by
    rw [replace_one 92 _ (by decide)]
    have : ∀ l : List UInt8, (l.flatMap fun c => if c = 92 then [92, 92] else [c]).length ≤ 2 * l.length := by
      intro l
      induction l with
      | nil => simp
      | cons c t ih =>
        rw [List.flatMap_cons, List.length_append, List.length_cons]
        split
        · simp only [List.length_cons, List.length_nil]; omega
        · simp only [List.length_cons, List.length_nil]; omega
    have := this l
    omega
  have HQ : Hid (quoteL l = 34 :: (Lib.replaceAll (Lib.replaceAll l [92] [92, 92]) [34] [92, 34] ++ [34])) := Lib.hid (by rw [quote_two]; rfl)
  have hq2 : (Lib.replaceAll (Lib.replaceAll l [92] [92, 92]) [34] [92, 34]).length ≤ 60000 := by
    have := quoteF_len l
    rw [quote_two]
    omega
  simp only at H1
  generalize quoteL l = res at *
  generalize hr1 : Lib.replaceAll l [92] [92, 92] = l1 at *
  have h2 := countB_le ⟨l1.toArray⟩ ⟨#[34]⟩
  rw [size_of] at h2
  have H2 := Lib.hid (fun W (h : EvW m W) => Tryz.strings_ReplaceAll ⟨l1.toArray⟩ ⟨#[34]⟩ ⟨#[92, 34]⟩ m W (by rw [size_of]; omega) h.max (by decide) (by rw [size_of]; have e : (ByteArray.mk #[92, 34]).size = 2 := rfl; rw [e]; omega))
  simp only at H2
  generalize hr2 : Lib.replaceAll l1 [34] [92, 34] = l2 at *
  clear hr1 hr2 h1 h2
  go_enter Tryz.func31, Tryz.ntmps31
  go_wp2_with fail
  (with_reducible refine (H1.out).mono ?_)
  rintro e w1 ⟨rfl, hb1⟩
  go_wp2_with fail
  (with_reducible refine (H2.out _ (hM.keep hb1)).mono ?_)
  rintro e w2 ⟨rfl, hb2⟩
  go_wp2_with fail
  go_ret
  rw [HQ.out]
  exact ⟨by rw [show (ByteArray.mk #[34]) = ⟨[34].toArray⟩ from rfl, ba_app3, ba_app3]; simp, bel_step hb1 hb2⟩
theorem itoa14_any (n : Int) (m : Int) (w : World) (h0 : -9223372036854775808 ≤ n) (h1 : n ≤ 9223372036854775807) (hM : EvW m w) : Calls Tryz.prog 29 #[.int .i64 n] w fun e w' => e = .returned (.string ⟨(Lib.itoa n).toArray⟩) ∧ Below w.heap.size w w' :=
  (Tryz.strconv_Itoa n h0 h1 w hM.tab).mono fun e w' ⟨he, k, os, hw⟩ => ⟨he, by rw [hw]; exact Lib.below_grow _ w (Nat.le_refl _) k os⟩
end Go.Proofs.YtchcedoaiihnmaaGreatDoor
