/-
  Frames, in plain Lean: the frame of bytes, what bytes begin with, the frames with which bytes begin.
-/
import Derived.Test.YtgklbejnbplbgaaDoorNumP
import Derived.Test.YtgklbejnbplbgaaDoorCrcN
namespace Go.Proofs.YtgklbejnbplbgaaDoor
open Go.Nst
set_option linter.unusedVariables false
set_option linter.unusedSimpArgs false

/-- might bytes become a number of a frame? -/
def tornB : List UInt8 → Bool
  | [] => true
  | [c] => decide (128 ≤ c.toNat) && decide (c.toNat % 2 = 0)
  | [c, d] => decide (c.toNat = 128) && decide (d.toNat = 128)
  | _ => false
def numAt (l : List UInt8) (n : Nat) : Bool := decide (l.length < (putL (2 * n)).length) && ((putL (2 * n)).take l.length == l)
def numB (l : List UInt8) : Bool := (List.range 8192).any fun i => numAt l (i + 1)
theorem put3 (x : Nat) (hx : x ≤ 16384) : (x < 128 ∧ putL x = [UInt8.ofNat x]) ∨ (128 ≤ x ∧ x < 16384 ∧ putL x = [UInt8.ofNat (x % 128 + 128), UInt8.ofNat (x / 128)]) ∨ (x = 16384 ∧ putL x = [128, 128, 1]) := by
  by_cases h1 : x < 128
  · exact .inl ⟨h1, putL_small h1⟩
  by_cases h2 : x < 16384
  · refine .inr (.inl ⟨by omega, h2, ?_⟩)
    rw [putL_big h1 (by omega), putL_small (by omega)]
  · obtain rfl : x = 16384 := by omega
    exact .inr (.inr ⟨rfl, by decide⟩)
theorem of8 (x : Nat) (h : x < 256) : (UInt8.ofNat x).toNat = x := by rw [UInt8.toNat_ofNat']; omega
theorem numB_torn (l : List UInt8) (h : l.length < 3) : numB l = tornB l := by
  rw [Bool.eq_iff_iff]
  simp only [numB, List.any_eq_true, List.mem_range, numAt, Bool.and_eq_true, decide_eq_true_eq, beq_iff_eq]
  match l, h with
  | [], _ =>
    simp only [tornB, iff_true]
    exact ⟨0, by omega, by decide, by decide⟩
  | [c], _ =>
    have hc := c.toNat_lt
    simp only [tornB, Bool.and_eq_true, decide_eq_true_eq, List.length_cons, List.length_nil]
    constructor
    · rintro ⟨i, hi, h1, h2⟩
      rcases put3 (2 * (i + 1)) (by omega) with ⟨a, e⟩ | ⟨a, b, e⟩ | ⟨a, e⟩
      · rw [e] at h1; simp at h1
      · rw [e] at h2
        replace h2 : [UInt8.ofNat (2 * (i + 1) % 128 + 128)] = [c] := h2
        injection h2 with h2 _
        have := of8 (2 * (i + 1) % 128 + 128) (by omega)
        rw [← h2, this]
        omega
      · rw [e] at h2
        simp at h2
        rw [← h2]
        decide
    · rintro ⟨h1, h2⟩
      refine ⟨63 + (c.toNat - 128) / 2, by omega, ?_⟩
      rcases put3 (2 * (63 + (c.toNat - 128) / 2 + 1)) (by omega) with ⟨a, e⟩ | ⟨a, b, e⟩ | ⟨a, e⟩
      · omega
      · rw [e]
        refine ⟨by simp, ?_⟩
        have : UInt8.ofNat (2 * (63 + (c.toNat - 128) / 2 + 1) % 128 + 128) = c := by
          apply UInt8.toNat_inj.1
          rw [of8 _ (by omega)]
          omega
        exact congrArg (fun x => [x]) this
      · omega
  | [c, d], _ =>
    have hc := c.toNat_lt
    have hd := d.toNat_lt
    simp only [tornB, Bool.and_eq_true, decide_eq_true_eq, List.length_cons, List.length_nil]
    constructor
    · rintro ⟨i, hi, h1, h2⟩
      rcases put3 (2 * (i + 1)) (by omega) with ⟨a, e⟩ | ⟨a, b, e⟩ | ⟨a, e⟩
      · rw [e] at h1; simp at h1
      · rw [e] at h1; simp at h1
      · rw [e] at h2
        simp at h2
        rw [← h2.1, ← h2.2]
        decide
    · rintro ⟨h1, h2⟩
      refine ⟨8191, by omega, by decide, ?_⟩
      have e : putL (2 * (8191 + 1)) = [128, 128, 1] := by decide
      rw [e]
      simp
      exact ⟨UInt8.toNat_inj.1 (by rw [h1]; rfl), UInt8.toNat_inj.1 (by rw [h2]; rfl)⟩

/-- what bytes begin with: the bytes, how many it takes, whether it is whole (1), torn (2), bad (3) -/
def nextL (l : List UInt8) : List UInt8 × Nat × Int :=
  match getL l with
  | none => ([], 0, if tornB l then 2 else 3)
  | some (n, k) =>
    if n < 1 ∨ 8192 < n then ([], 0, 3)
    else if (l.length : Int) < k + n + 4 then ([], 0, 2)
    else if (openL ((l.drop k).take (n.toNat + 4))).2 then ((openL ((l.drop k).take (n.toNat + 4))).1, k + n.toNat + 4, 1) else ([], 0, 3)
theorem next_none {l : List UInt8} (h : getL l = none) : nextL l = ([], 0, if tornB l then 2 else 3) := by unfold nextL; rw [h]
theorem next_num {l : List UInt8} {n : Int} {k : Nat} (h : getL l = some (n, k)) (hn : n < 1 ∨ 8192 < n) : nextL l = ([], 0, 3) := by unfold nextL; rw [h]; simp only [if_pos hn]
theorem next_short {l : List UInt8} {n : Int} {k : Nat} (h : getL l = some (n, k)) (hn : ¬ (n < 1 ∨ 8192 < n)) (hl : (l.length : Int) < k + n + 4) : nextL l = ([], 0, 2) := by
  unfold nextL; rw [h]; simp only [if_neg hn, if_pos hl]
theorem next_long {l : List UInt8} {n : Int} {k : Nat} (h : getL l = some (n, k)) (hn : ¬ (n < 1 ∨ 8192 < n)) (hl : ¬ (l.length : Int) < k + n + 4) : nextL l = if (openL ((l.drop k).take (n.toNat + 4))).2 then ((openL ((l.drop k).take (n.toNat + 4))).1, k + n.toNat + 4, 1) else ([], 0, 3) := by
  unfold nextL; rw [h]; simp only [if_neg hn, if_neg hl]
theorem next_whole {l : List UInt8} (h : (nextL l).2.2 = 1) : 5 < (nextL l).2.1 ∧ (nextL l).2.1 ≤ l.length := by
  cases hg : getL l with
  | none => rw [next_none hg] at h; simp at h; split at h <;> omega
  | some r =>
    obtain ⟨n, k⟩ := r
    by_cases h1 : n < 1 ∨ 8192 < n
    · rw [next_num hg h1] at h; simp at h
    by_cases h2 : (l.length : Int) < k + n + 4
    · rw [next_short hg h1 h2] at h; simp at h
    have hk := (put_get hg).2.2.2.1
    rw [next_long hg h1 h2] at h ⊢
    split at h
    · rename_i hh
      rw [if_pos hh]
      simp only
      omega
    · simp at h
theorem next_other {l : List UInt8} (h : (nextL l).2.2 ≠ 1) : (nextL l).1 = [] ∧ (nextL l).2.1 = 0 := by
  unfold nextL at h ⊢
  split
  · exact ⟨rfl, rfl⟩
  · split
    · exact ⟨rfl, rfl⟩
    · split
      · exact ⟨rfl, rfl⟩
      · split
        · rename_i hg h1 h2 h3
          rw [hg] at h
          simp only [if_neg h1, if_neg h2, if_pos h3] at h
          exact absurd rfl h
        · exact ⟨rfl, rfl⟩
/-- the frame of bytes -/
def frameL (b : List UInt8) : List UInt8 := putL (zig b.length) ++ sealL b
theorem seal_len (b : List UInt8) : (sealL b).length = b.length + 4 := by simp [sealL, wordL]
theorem mayLen {b : List UInt8} (h : b.length ≤ 8192) : mayB (b.length : Int) = true := by rw [mayB_iff]; omega
theorem next_frame (b t : List UInt8) (h0 : 0 < b.length) (h1 : b.length ≤ 8192) : nextL (frameL b ++ t) = (b, (frameL b).length, 1) := by
  have hg : getL (frameL b ++ t) = some ((b.length : Int), (putL (zig b.length)).length) := by
    unfold frameL
    rw [List.append_assoc]
    exact get_put (mayLen h1) _
  have hs := seal_len b
  have hl : (frameL b ++ t).length = (putL (zig b.length)).length + (b.length + 4) + t.length := by simp [frameL, hs]; omega
  rw [next_long hg (by omega) (by rw [hl]; omega)]
  have e : ((frameL b ++ t).drop (putL (zig b.length)).length).take ((b.length : Int).toNat + 4) = sealL b := by
    unfold frameL
    rw [List.append_assoc, List.drop_left' rfl, List.take_left' (by rw [hs]; simp)]
  rw [e, open_seal]
  simp only [if_true]
  have : (frameL b).length = (putL (zig b.length)).length + (b.length + 4) := by simp [frameL, hs]
  rw [this]
  simp
  omega

/-- the frames with which bytes begin; how many bytes they take; what is behind -/
def scanF : Nat → List UInt8 → List (List UInt8) × Nat × Int
  | 0, _ => ([], 0, 1)
  | _ + 1, [] => ([], 0, 1)
  | k + 1, c :: t => if (nextL (c :: t)).2.2 = 1 then ((nextL (c :: t)).1 :: (scanF k ((c :: t).drop (nextL (c :: t)).2.1)).1, (nextL (c :: t)).2.1 + (scanF k ((c :: t).drop (nextL (c :: t)).2.1)).2.1, (scanF k ((c :: t).drop (nextL (c :: t)).2.1)).2.2) else ([], 0, (nextL (c :: t)).2.2)
def scanL (l : List UInt8) : List (List UInt8) × Nat × Int := scanF l.length l
theorem scanF_fuel : ∀ (k m : Nat) (l : List UInt8), l.length ≤ k → l.length ≤ m → scanF k l = scanF m l
  | 0, m, l, hk, _ => by
    obtain rfl : l = [] := List.eq_nil_of_length_eq_zero (by omega)
    cases m <;> rfl
  | k + 1, 0, l, _, hm => by
    obtain rfl : l = [] := List.eq_nil_of_length_eq_zero (by omega)
    rfl
  | k + 1, m + 1, [], _, _ => rfl
  | k + 1, m + 1, c :: t, hk, hm => by
    simp only [scanF]
    by_cases hw : (nextL (c :: t)).2.2 = 1
    · have := next_whole hw
      rw [if_pos hw, if_pos hw, scanF_fuel k m _ (by simp at hk ⊢; omega) (by simp at hm ⊢; omega)]
    · rw [if_neg hw, if_neg hw]
theorem scanL_nil : scanL [] = ([], 0, 1) := rfl
theorem scanL_step (l : List UInt8) (h : l ≠ []) : scanL l = if (nextL l).2.2 = 1 then ((nextL l).1 :: (scanL (l.drop (nextL l).2.1)).1, (nextL l).2.1 + (scanL (l.drop (nextL l).2.1)).2.1, (scanL (l.drop (nextL l).2.1)).2.2) else ([], 0, (nextL l).2.2) := by
  cases l with
  | nil => exact absurd rfl h
  | cons c t =>
    unfold scanL
    simp only [List.length_cons, scanF]
    by_cases hw : (nextL (c :: t)).2.2 = 1
    · have := next_whole hw
      rw [if_pos hw, if_pos hw, scanF_fuel t.length _ _ (by simp; omega) (Nat.le_refl _)]
    · rw [if_neg hw, if_neg hw]
theorem scan_len (l : List UInt8) : (scanL l).1.length ≤ l.length := by
  suffices ∀ (k : Nat) (l : List UInt8), l.length ≤ k → (scanL l).1.length ≤ l.length from this _ l (Nat.le_refl _)
  intro k
  induction k with
  | zero =>
    intro l h
    obtain rfl : l = [] := List.eq_nil_of_length_eq_zero (by omega)
    rw [scanL_nil]; simp
  | succ k ih =>
    intro l h
    by_cases hl : l = []
    · subst hl; rw [scanL_nil]; simp
    rw [scanL_step l hl]
    by_cases hw : (nextL l).2.2 = 1
    · have h2 := next_whole hw
      have := ih (l.drop (nextL l).2.1) (by rw [List.length_drop]; omega)
      rw [List.length_drop] at this
      rw [if_pos hw]
      simp only [List.length_cons]
      omega
    · rw [if_neg hw]; simp
end Go.Proofs.YtgklbejnbplbgaaDoor
