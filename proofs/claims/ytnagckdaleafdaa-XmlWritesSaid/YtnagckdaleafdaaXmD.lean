/-
  Blanks; what a run takes: once for each test.
-/
import Derived.Test.YtnagckdaleafdaaXmC
namespace Go.Proofs.Ytnagckdaleafdaa
open Go.RowKit Go.Nst
set_option maxRecDepth 100000
set_option linter.unusedVariables false
set_option linter.unusedSimpArgs false

theorem ib_blank (r : Int) (h0 : 0 ≤ r) (h1 : r < 128) : decide (0 ≤ Lib.indexByte (⟨#[32, 9, 13, 10]⟩ : ByteArray).data.toList r.toNat.toUInt8) = blkR r := by
  have key : ∀ k : Fin 128, decide (0 ≤ Lib.indexByte [32, 9, 13, 10] (k.val.toUInt8)) = blkR (k.val : Int) := by decide +kernel
  have := key ⟨r.toNat, by omega⟩
  simp only at this
  rw [show ((r.toNat : Nat) : Int) = r by omega] at this
  exact this
theorem contains_blank (r : Int) (w : World) (h0 : 0 ≤ r) (h1 : r ≤ 1114111) : Calls Try.prog 74 #[.string ⟨#[32, 9, 13, 10]⟩, .int .i32 r] w fun e w' => e = .returned (.bool (blkR r)) ∧ Below w.heap.size w w' := by
  by_cases hr : r < 128
  · have := Try.strings_ContainsRune_ascii ⟨#[32, 9, 13, 10]⟩ r w h0 hr
    rw [ib_blank r h0 hr] at this
    exact this.mono fun e w' ⟨h1, h2⟩ => ⟨h1, by rw [h2]; exact Below.refl _ _⟩
  · have HC := Lib.hid (indexHigh_any r w (by omega) h1)
    have HE : Hid (blkR r = false) := Lib.hid (by unfold blkR; simp; omega)
    go_enter Try.func74, Try.ntmps74
    go_wp2_with fail
    (with_reducible refine (HC.out).mono ?_)
    rintro e w2 ⟨rfl, hb⟩
    go_wp2_with fail
    go_ret
    exact ⟨by rw [HE.out]; rfl, hb⟩
theorem blank1_any (c : Int) (w : World) (h0 : 0 ≤ c) (h1 : c ≤ 1114111) : Calls Try.prog 73 #[.int .i32 c] w fun e w' => e = .returned (.bool (blkR c)) ∧ Below w.heap.size w w' := by
  have HC := Lib.hid (contains_blank c w h0 h1)
  generalize blkR c = b at *
  go_enter Try.func73, Try.ntmps73
  go_wp2_with fail
  (with_reducible refine (HC.out).mono ?_)
  rintro e w2 ⟨rfl, hb⟩
  go_wp2_with fail
  go_ret
  exact ⟨rfl, hb⟩

theorem firstL_bytes (l : List UInt8) (h : ∀ c t, l = c :: t → 128 ≤ c.toNat) : ∀ x ∈ l.take (firstL l).2, 128 ≤ x.toNat := by
  cases l with
  | nil => intro x hx; simp at hx
  | cons c t =>
    have hc := h c t rfl
    have one : ∀ x ∈ (c :: t).take 1, 128 ≤ x.toNat := by
      intro x hx
      simp only [List.take_succ_cons, List.take_zero, List.mem_singleton] at hx
      subst hx
      exact hc
    unfold firstL
    dsimp only
    rw [if_neg (by omega)]
    split
    · match t with
      | [] => exact one
      | d :: t =>
        simp only
        split
        · rename_i h2
          simp only [tailB, Bool.and_eq_true, decide_eq_true_eq] at h2
          intro x hx
          simp only [List.take_succ_cons, List.take_zero, List.mem_cons, List.not_mem_nil, or_false] at hx
          rcases hx with rfl | rfl <;> omega
        · exact one
    · split
      · match t with
        | [] => exact one
        | [d] => exact one
        | d :: e :: t =>
          simp only
          split
          · rename_i h2
            simp only [tailB, Bool.and_eq_true, decide_eq_true_eq] at h2
            intro x hx
            simp only [List.take_succ_cons, List.take_zero, List.mem_cons, List.not_mem_nil, or_false] at hx
            rcases hx with rfl | rfl | rfl <;> omega
          · exact one
      · split
        · match t with
          | [] => exact one
          | [d] => exact one
          | [d, e] => exact one
          | d :: e :: f :: t =>
            simp only
            split
            · rename_i h2
              simp only [tailB, Bool.and_eq_true, decide_eq_true_eq] at h2
              intro x hx
              simp only [List.take_succ_cons, List.take_zero, List.mem_cons, List.not_mem_nil, or_false] at hx
              rcases hx with rfl | rfl | rfl | rfl <;> omega
            · exact one
        · exact one
/-- a test of runes, told of bytes -/
def RunT (R : Int → Bool) (p : UInt8 → Bool) : Prop := ∀ (u : UInt8) (t : List UInt8), R ((firstL (u :: t)).1 : Int) = p u ∧ (p u = true → ((u :: t).take (firstL (u :: t)).2).all p = true)
theorem runT_of {R : Int → Bool} {p : UInt8 → Bool} (h1 : ∀ u : UInt8, R (u.toNat : Int) = p u) {b : Bool} (h2 : ∀ c : Int, 128 ≤ c → R c = b) : RunT R p := by
  intro u t
  by_cases hu : u.toNat < 128
  · rw [firstL_low u t hu]
    refine ⟨h1 u, fun h => ?_⟩
    simp [h]
  · have hh := firstL_high u t (by omega)
    have hp : ∀ x : UInt8, 128 ≤ x.toNat → p x = b := fun x hx => by rw [← h1 x]; exact h2 _ (by omega)
    refine ⟨by rw [h2 _ (by omega), hp u (by omega)], fun h => ?_⟩
    rw [List.all_eq_true]
    intro x hx
    rw [hp x (firstL_bytes (u :: t) (by intro c t' e; injection e with e1 e2; subst e1; omega) x hx), ← hp u (by omega)]
    exact h
theorem runT_go : RunT goR goB := runT_of goR_of (b := false) (by intro c hc; unfold goR begR; simp; omega)
theorem runT_blk : RunT blkR blkB := runT_of blkR_of (b := false) (by intro c hc; unfold blkR; simp; omega)
theorem runT_txt : RunT (fun c => c != 60) txtB := runT_of (by intro u; unfold txtB; rw [Bool.eq_iff_iff]; simp; omega) (b := true) (by intro c hc; simp; omega)
theorem take_more {p : UInt8 → Bool} {l : List UInt8} {pos n : Nat} (h : (l.take pos).all p = true) (h2 : ((l.drop pos).take n).all p = true) : (l.take (pos + n)).all p = true := by
  rw [List.take_add, List.all_append, h, h2]
  rfl
theorem take_stop {p : UInt8 → Bool} {l : List UInt8} {pos : Nat} {u : UInt8} (h : (l.take pos).all p = true) (hu : l[pos]? = some u) (hp : p u = false) : l.takeWhile p = l.take pos ∧ l.dropWhile p = l.drop pos := by
  have hlt := (List.getElem?_eq_some_iff.1 hu).1
  have hd : l.drop pos = u :: l.drop (pos + 1) := by rw [List.drop_eq_getElem_cons hlt, (List.getElem?_eq_some_iff.1 hu).2]
  have e : l = l.take pos ++ u :: l.drop (pos + 1) := by rw [← hd, List.take_append_drop]
  have := take_append_stop h u (l.drop (pos + 1)) hp
  rw [← e] at this
  rw [hd]
  exact this
theorem take_full {p : UInt8 → Bool} {l : List UInt8} {pos : Nat} (h : (l.take pos).all p = true) (hl : l.length ≤ pos) : l.takeWhile p = l ∧ l.dropWhile p = [] := by
  rw [List.take_of_length_le hl] at h
  exact Go.Nst.take_all h
theorem xstr_drop (l : List UInt8) (k : Nat) : (ByteArray.mk l.toArray).extract k l.length = ⟨(l.drop k).toArray⟩ := by
  have q := bl_from ⟨l.toArray⟩ k
  rw [size_of] at q
  rw [show bl ⟨l.toArray⟩ = l from bl_of l] at q
  rw [← q, bl_mk]
theorem xstr_take (l : List UInt8) (k : Nat) : (ByteArray.mk l.toArray).extract 0 k = ⟨(l.take k).toArray⟩ := by
  rw [str_upto, bl_of]
/-- a reader of documents -/
abbrev XrB (w : World) (g : Nat) (l : List UInt8) (b : Bool) : Prop := Blk w g 42 #[.string ⟨l.toArray⟩, .bool b]
def XRun (p : UInt8 → Bool) (w : World) (g : Nat) (l : List UInt8) (b : Bool) (e : Ending) (w' : World) : Prop := e = .returned (.string ⟨(l.takeWhile p).toArray⟩) ∧ XrB w' g (l.dropWhile p) b ∧ w.grownBy w' (some g)
theorem xrun_fin {p : UInt8 → Bool} {w w2 : World} {g : Nat} {l : List UInt8} {b : Bool} {k : Nat} {x y : ByteArray} (h : XrB w g l b) (hb : Below w.heap.size w w2) (hx : x = ⟨(l.take k).toArray⟩) (hy : y = ⟨(l.drop k).toArray⟩) (ht : l.takeWhile p = l.take k ∧ l.dropWhile p = l.drop k) :
    XRun p w g l b (.returned (.string x)) (w2.setCell ⟨g, 0, none⟩ (.string y)) := by
  subst hx hy
  refine ⟨by rw [ht.1], ?_, ?_⟩
  · unfold XrB
    rw [ht.2]
    exact ((h.below hb h.lt).set_ 0 _)
  · exact only_setCell (only_of_below hb _) (.inl rfl) _
end Go.Proofs.Ytnagckdaleafdaa
