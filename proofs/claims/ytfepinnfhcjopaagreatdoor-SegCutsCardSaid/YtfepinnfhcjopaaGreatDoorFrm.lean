/-
  Frames, in plain Lean: the frame of bytes, what bytes begin with, the frames with which bytes begin.
  frame.Size, frame.Put, frame.torn, frame.Next.
  The reference's frames: Put, number, Next.
  Rows of slices of bytes; Scan, the reference's Scan, Same.
-/
import Derived.Test.YtfepinnfhcjopaaGreatDoorPla
import Derived.Test.YtfepinnfhcjopaaGreatDoorCrc
import Derived.Test.YtfepinnfhcjopaaGreatDoorNm1
import Derived.Test.YtfepinnfhcjopaaGreatDoorBas
import Derived.IntWalk
section
namespace Go.Proofs.YtfepinnfhcjopaaGreatDoor
open Go.Nst
set_option linter.unusedVariables false
set_option linter.unusedSimpArgs false

/-- might bytes become a number of a frame? -/
def tornB : List UInt8 → Bool
  | [] => true
  | [c] => decide (128 ≤ c.toNat) && decide (c.toNat % 2 = 0)
  | [c, d] => decide (c.toNat = 128) && decide (d.toNat = 128)
  | _ => false
def numAt (l : List UInt8) (n : Nat) : Bool := decide (l.length < (putL (2 * n)).length) && ((putL (2 * n)).take l.length == l)
def numB (l : List UInt8) : Bool := (List.range 8192).any fun i => numAt l (i + 1)
theorem put3 (x : Nat) (hx : x ≤ 16384) : (x < 128 ∧ putL x = [UInt8.ofNat x]) ∨ (128 ≤ x ∧ x < 16384 ∧ putL x = [UInt8.ofNat (x % 128 + 128), UInt8.ofNat (x / 128)]) ∨ (x = 16384 ∧ putL x = [128, 128, 1]) := by
  by_cases h1 : x < 128
  · exact .inl ⟨h1, putL_small h1⟩
  by_cases h2 : x < 16384
  · refine .inr (.inl ⟨by omega, h2, ?_⟩)
    rw [putL_big h1 (by omega), putL_small (by omega)]
  · obtain rfl : x = 16384 := by omega
    exact .inr (.inr ⟨rfl, by decide⟩)
theorem of8 (x : Nat) (h : x < 256) : (UInt8.ofNat x).toNat = x := by rw [UInt8.toNat_ofNat']; omega
theorem numB_torn (l : List UInt8) (h : l.length < 3) : numB l = tornB l := by
  rw [Bool.eq_iff_iff]
  simp only [numB, List.any_eq_true, List.mem_range, numAt, Bool.and_eq_true, decide_eq_true_eq, beq_iff_eq]
  match l, h with
  | [], _ =>
    simp only [tornB, iff_true]
    exact ⟨0, by omega, by decide, by decide⟩
  | [c], _ =>
    have hc := c.toNat_lt
    simp only [tornB, Bool.and_eq_true, decide_eq_true_eq, List.length_cons, List.length_nil]
    constructor
    · rintro ⟨i, hi, h1, h2⟩
      rcases put3 (2 * (i + 1)) (by omega) with ⟨a, e⟩ | ⟨a, b, e⟩ | ⟨a, e⟩
      · rw [e] at h1; simp at h1
      · rw [e] at h2
        replace h2 : [UInt8.ofNat (2 * (i + 1) % 128 + 128)] = [c] := h2
        injection h2 with h2 _
        have := of8 (2 * (i + 1) % 128 + 128) (by omega)
        rw [← h2, this]
        omega
      · rw [e] at h2
        simp at h2
        rw [← h2]
        decide
    · rintro ⟨h1, h2⟩
      refine ⟨63 + (c.toNat - 128) / 2, by omega, ?_⟩
      rcases put3 (2 * (63 + (c.toNat - 128) / 2 + 1)) (by omega) with ⟨a, e⟩ | ⟨a, b, e⟩ | ⟨a, e⟩
      · omega
      · rw [e]
        refine ⟨by simp, ?_⟩
        have : UInt8.ofNat (2 * (63 + (c.toNat - 128) / 2 + 1) % 128 + 128) = c := by
          apply UInt8.toNat_inj.1
          rw [of8 _ (by omega)]
          omega
        exact congrArg (fun x => [x]) this
      · omega
  | [c, d], _ =>
    have hc := c.toNat_lt
    have hd := d.toNat_lt
    simp only [tornB, Bool.and_eq_true, decide_eq_true_eq, List.length_cons, List.length_nil]
    constructor
    · rintro ⟨i, hi, h1, h2⟩
      rcases put3 (2 * (i + 1)) (by omega) with ⟨a, e⟩ | ⟨a, b, e⟩ | ⟨a, e⟩
      · rw [e] at h1; simp at h1
      · rw [e] at h1; simp at h1
      · rw [e] at h2
        simp at h2
        rw [← h2.1, ← h2.2]
        decide
    · rintro ⟨h1, h2⟩
      refine ⟨8191, by omega, by decide, ?_⟩
      have e : putL (2 * (8191 + 1)) = [128, 128, 1] := by decide
      rw [e]
      simp
      exact ⟨UInt8.toNat_inj.1 (by rw [h1]; rfl), UInt8.toNat_inj.1 (by rw [h2]; rfl)⟩

/-- what bytes begin with: the bytes, how many it takes, whether it is whole (1), torn (2), bad (3) -/
def nextL (l : List UInt8) : List UInt8 × Nat × Int :=
  match getL l with
  | none => ([], 0, if tornB l then 2 else 3)
  | some (n, k) =>
    if n < 1 ∨ 8192 < n then ([], 0, 3)
    else if (l.length : Int) < k + n + 4 then ([], 0, 2)
    else if (openL ((l.drop k).take (n.toNat + 4))).2 then ((openL ((l.drop k).take (n.toNat + 4))).1, k + n.toNat + 4, 1) else ([], 0, 3)
theorem next_none {l : List UInt8} (h : getL l = none) : nextL l = ([], 0, if tornB l then 2 else 3) := by unfold nextL; rw [h]
theorem next_num {l : List UInt8} {n : Int} {k : Nat} (h : getL l = some (n, k)) (hn : n < 1 ∨ 8192 < n) : nextL l = ([], 0, 3) := by unfold nextL; rw [h]; simp only [if_pos hn]
theorem next_short {l : List UInt8} {n : Int} {k : Nat} (h : getL l = some (n, k)) (hn : ¬ (n < 1 ∨ 8192 < n)) (hl : (l.length : Int) < k + n + 4) : nextL l = ([], 0, 2) := by
  unfold nextL; rw [h]; simp only [if_neg hn, if_pos hl]
theorem next_long {l : List UInt8} {n : Int} {k : Nat} (h : getL l = some (n, k)) (hn : ¬ (n < 1 ∨ 8192 < n)) (hl : ¬ (l.length : Int) < k + n + 4) : nextL l = if (openL ((l.drop k).take (n.toNat + 4))).2 then ((openL ((l.drop k).take (n.toNat + 4))).1, k + n.toNat + 4, 1) else ([], 0, 3) := by
  unfold nextL; rw [h]; simp only [if_neg hn, if_neg hl]
theorem next_whole {l : List UInt8} (h : (nextL l).2.2 = 1) : 5 < (nextL l).2.1 ∧ (nextL l).2.1 ≤ l.length := by
  cases hg : getL l with
  | none => rw [next_none hg] at h; simp at h; split at h <;> omega
  | some r =>
    obtain ⟨n, k⟩ := r
    by_cases h1 : n < 1 ∨ 8192 < n
    · rw [next_num hg h1] at h; simp at h
    by_cases h2 : (l.length : Int) < k + n + 4
    · rw [next_short hg h1 h2] at h; simp at h
    have hk := (put_get hg).2.2.2.1
    rw [next_long hg h1 h2] at h ⊢
    split at h
    · rename_i hh
      rw [if_pos hh]
      simp only
      omega
    · simp at h
theorem next_other {l : List UInt8} (h : (nextL l).2.2 ≠ 1) : (nextL l).1 = [] ∧ (nextL l).2.1 = 0 := by
  unfold nextL at h ⊢
  split
  · exact ⟨rfl, rfl⟩
  · split
    · exact ⟨rfl, rfl⟩
    · split
      · exact ⟨rfl, rfl⟩
      · split
        · rename_i hg h1 h2 h3
          rw [hg] at h
          simp only [if_neg h1, if_neg h2, if_pos h3] at h
          exact absurd rfl h
        · exact ⟨rfl, rfl⟩
/-- the frame of bytes -/
def frameL (b : List UInt8) : List UInt8 := putL (zig b.length) ++ sealL b
theorem seal_len (b : List UInt8) : (sealL b).length = b.length + 4 := by simp [sealL, wordL]
theorem mayLen {b : List UInt8} (h : b.length ≤ 8192) : mayB (b.length : Int) = true := by rw [mayB_iff]; omega
theorem next_frame (b t : List UInt8) (h0 : 0 < b.length) (h1 : b.length ≤ 8192) : nextL (frameL b ++ t) = (b, (frameL b).length, 1) := by
  have hg : getL (frameL b ++ t) = some ((b.length : Int), (putL (zig b.length)).length) := by
    unfold frameL
    rw [List.append_assoc]
    exact get_put (mayLen h1) _
  have hs := seal_len b
  have hl : (frameL b ++ t).length = (putL (zig b.length)).length + (b.length + 4) + t.length := by simp [frameL, hs]; omega
  rw [next_long hg (by omega) (by rw [hl]; omega)]
  have e : ((frameL b ++ t).drop (putL (zig b.length)).length).take ((b.length : Int).toNat + 4) = sealL b := by
    unfold frameL
    rw [List.append_assoc, List.drop_left' rfl, List.take_left' (by rw [hs]; simp)]
  rw [e, open_seal]
  simp only [if_true]
  have : (frameL b).length = (putL (zig b.length)).length + (b.length + 4) := by simp [frameL, hs]
  rw [this]
  simp
  omega

/-- the frames with which bytes begin; how many bytes they take; what is behind -/
def scanF : Nat → List UInt8 → List (List UInt8) × Nat × Int
  | 0, _ => ([], 0, 1)
  | _ + 1, [] => ([], 0, 1)
  | k + 1, c :: t => if (nextL (c :: t)).2.2 = 1 then ((nextL (c :: t)).1 :: (scanF k ((c :: t).drop (nextL (c :: t)).2.1)).1, (nextL (c :: t)).2.1 + (scanF k ((c :: t).drop (nextL (c :: t)).2.1)).2.1, (scanF k ((c :: t).drop (nextL (c :: t)).2.1)).2.2) else ([], 0, (nextL (c :: t)).2.2)
def scanL (l : List UInt8) : List (List UInt8) × Nat × Int := scanF l.length l
theorem scanF_fuel : ∀ (k m : Nat) (l : List UInt8), l.length ≤ k → l.length ≤ m → scanF k l = scanF m l
  | 0, m, l, hk, _ => by
    obtain rfl : l = [] := List.eq_nil_of_length_eq_zero (by omega)
    cases m <;> rfl
  | k + 1, 0, l, _, hm => by
    obtain rfl : l = [] := List.eq_nil_of_length_eq_zero (by omega)
    rfl
  | k + 1, m + 1, [], _, _ => rfl
  | k + 1, m + 1, c :: t, hk, hm => by
    simp only [scanF]
    by_cases hw : (nextL (c :: t)).2.2 = 1
    · have := next_whole hw
      rw [if_pos hw, if_pos hw, scanF_fuel k m _ (by simp at hk ⊢; omega) (by simp at hm ⊢; omega)]
    · rw [if_neg hw, if_neg hw]
theorem scanL_nil : scanL [] = ([], 0, 1) := rfl
theorem scanL_step (l : List UInt8) (h : l ≠ []) : scanL l = if (nextL l).2.2 = 1 then ((nextL l).1 :: (scanL (l.drop (nextL l).2.1)).1, (nextL l).2.1 + (scanL (l.drop (nextL l).2.1)).2.1, (scanL (l.drop (nextL l).2.1)).2.2) else ([], 0, (nextL l).2.2) := by
  cases l with
  | nil => exact absurd rfl h
  | cons c t =>
    unfold scanL
    simp only [List.length_cons, scanF]
    by_cases hw : (nextL (c :: t)).2.2 = 1
    · have := next_whole hw
      rw [if_pos hw, if_pos hw, scanF_fuel t.length _ _ (by simp; omega) (Nat.le_refl _)]
    · rw [if_neg hw, if_neg hw]
theorem scan_len (l : List UInt8) : (scanL l).1.length ≤ l.length := by
  suffices ∀ (k : Nat) (l : List UInt8), l.length ≤ k → (scanL l).1.length ≤ l.length from this _ l (Nat.le_refl _)
  intro k
  induction k with
  | zero =>
    intro l h
    obtain rfl : l = [] := List.eq_nil_of_length_eq_zero (by omega)
    rw [scanL_nil]; simp
  | succ k ih =>
    intro l h
    by_cases hl : l = []
    · subst hl; rw [scanL_nil]; simp
    rw [scanL_step l hl]
    by_cases hw : (nextL l).2.2 = 1
    · have h2 := next_whole hw
      have := ih (l.drop (nextL l).2.1) (by rw [List.length_drop]; omega)
      rw [List.length_drop] at this
      rw [if_pos hw]
      simp only [List.length_cons]
      omega
    · rw [if_neg hw]; simp
end Go.Proofs.YtfepinnfhcjopaaGreatDoor
end
section
namespace Go.Proofs.YtfepinnfhcjopaaGreatDoor
open Go.RowKit Go.Nst
set_option maxRecDepth 100000
set_option linter.unusedVariables false
set_option linter.unusedSimpArgs false

def sizeN (n : Int) : Int := if n < 1 ∨ 8192 < n then 0 else ((putL (zig n)).length : Int) + n + 4
/-- what comes of Put -/
def putE (b : List UInt8) : List UInt8 × Int := if b.length = 0 then ([], 1) else if 8192 < b.length then ([], 3) else (frameL b, 0)
set_option maxHeartbeats 1000000 in
theorem put17_any (A : Option Addr) (n c : Nat) (l : List UInt8) (w : World) (hn : n ≤ 140737488350000) (hB : Bs w A n l) (ht : Tab w) :
    Calls Tryz.prog 39 #[.slice A n c] w (RetBE w (putE l).1 (putE l).2) := by
  have hl := hB.len
  by_cases h1 : n = 0
  · have HE : Hid (putE l = ([], 1)) := by unfold putE; rw [if_pos (by omega)]; exact Lib.hid rfl
    subst h1
    go_enter Tryz.func39, Tryz.ntmps39
    go_wp2_with fail
    go_ret2
    rw [HE.out]
    exact ⟨none, 0, 0, rfl, Ow.nil, Below.refl _ _⟩
  have d1 : ((n : Int) == 0) = false := by simp; omega
  by_cases h2 : 8192 < n
  · have HE : Hid (putE l = ([], 3)) := by unfold putE; rw [if_neg (by omega), if_pos (by omega)]; exact Lib.hid rfl
    have d2 : decide (8192 < (n : Int)) = true := by simp; omega
    go_enter Tryz.func39, Tryz.ntmps39
    go_wp2_with fail
    go_ret2
    rw [HE.out]
    exact ⟨none, 0, 0, rfl, Ow.nil, Below.refl _ _⟩
  have HE : Hid (putE l = (putL (zig n) ++ sealL l, 0)) := by unfold putE frameL; rw [if_neg (by omega), if_neg (by omega), hl]; exact Lib.hid rfl
  have d2 : decide (8192 < (n : Int)) = false := by simp; omega
  have HP := Lib.hid (put_yes n w (by rw [mayB_iff]; omega))
  have hpl := (putL_len (zig n)).2
  have HS := Lib.hid (fun W (hb : Below w.heap.size w W) => seal_any A n c l W (by omega) (hB.below hb) (ht.below hb))
  have hsl := seal_len l
  generalize putL (zig n) = p at *
  generalize sealL l = q at *
  go_enter Tryz.func39, Tryz.ntmps39
  go_wp2_with fail
  refine HP.out.mono ?_
  rintro e w1 ⟨A1, n1, c1, rfl, ho1, B1⟩
  have hn1 := ho1.len
  go_wp2_with fail
  refine (HS.out _ B1).mono ?_
  rintro e w2 ⟨A2, n2, c2, rfl, ho2, hb2⟩
  have hn2 := ho2.len
  have HR := Lib.hid (two_parts w2 22 ⟨A1, n1, c1, p⟩ ⟨A2, n2, c2, q⟩)
  have q1 := ho1.bs.below hb2
  have B2 := bel_step B1 hb2
  clear hb2
  go_wp2_with fail
  refine (concat_any _ 2 _ [⟨A1, n1, c1, p⟩, ⟨A2, n2, c2, q⟩] _ (by omega) ?_ ?_ ?_).mono ?_
  · simpa using HR.out
  · intro x hx
    simp only [List.mem_cons, List.not_mem_nil, or_false] at hx
    rcases hx with rfl | rfl
    · exact q1.alloc _
    · exact ho2.bs.alloc _
  · simp [partSum]; omega
  · intro e w3 hr
    have hr2 := RetB.base hr (bel_alloc B2 _)
    obtain ⟨A3, n3, c3, rfl, ho3, hb3⟩ := hr2
    go_wp2_with fail
    go_ret2
    rw [HE.out]
    refine ⟨A3, n3, c3, rfl, ?_, hb3⟩
    simpa [partBytes] using ho3

theorem sub128 (u : UInt8) (h : 128 ≤ u.toNat) : ∃ x : Nat, x < 128 ∧ u.toNat = x + 128 := ⟨u.toNat - 128, by have := u.toNat_lt; omega, by omega⟩
theorem i64_or_nat (a b : Nat) (ha : a < 2 ^ 63) (hb : b < 2 ^ 63) : bits .or .i64 (a : Int) (b : Int) = ((a ||| b : Nat) : Int) := by
  show IntKind.i64.wrap ((BitVec.ofInt 64 (a : Int) ||| BitVec.ofInt 64 (b : Int)).toNat : Int) = _
  rw [BitVec.toNat_or, ofInt_nat64 a (by omega), ofInt_nat64 b (by omega)]
  have := Nat.or_lt_two_pow ha hb
  exact IntWalk.i64_in _ (by omega)
theorem i64_and1 (a : Nat) (ha : a < 2 ^ 63) : bits .and .i64 (a : Int) 1 = ((a % 2 : Nat) : Int) := by
  show IntKind.i64.wrap ((BitVec.ofInt 64 (a : Int) &&& BitVec.ofInt 64 ((1 : Nat) : Int)).toNat : Int) = _
  rw [BitVec.toNat_and, ofInt_nat64 a (by omega), ofInt_nat64 1 (by omega), nat_mask1]
  exact IntWalk.i64_in _ (by omega)
theorem pow_k {k : Nat} (hk : k ≤ 2) : 128 ^ k ≤ 16384 := Nat.le_trans (Nat.pow_le_pow_right (by omega) hk) (by decide)
theorem shl7i (c k : Nat) (hc : c < 128) (hk : k ≤ 2) : (c : Int) * 2 ^ (7 * k) = ((c * 128 ^ k : Nat) : Int) ∧ c * 128 ^ k < 2097152 := by
  refine ⟨by rw [← pow7]; simp, ?_⟩
  have := Nat.mul_le_mul (show c ≤ 127 by omega) (pow_k hk)
  omega
theorem or7i (y c k : Nat) (hy : y < 128 ^ k) (hc : c < 128) (hk : k ≤ 2) : bits .or .i64 (y : Int) ((c * 128 ^ k : Nat) : Int) = ((y + c * 128 ^ k : Nat) : Int) := by
  have h1 := pow_k hk
  have h2 := (shl7i c k hc hk).2
  rw [i64_or_nat y (c * 128 ^ k) (by omega) (by omega), Nat.or_comm, nat_join (7 * k) (c * 128 ^ k) y (by rw [pow7]; simp) (by rw [pow7]; exact hy), Nat.add_comm]
/-- the number that bytes of 128 and more make -/
def highN : List UInt8 → Nat
  | [] => 0
  | c :: t => (c.toNat - 128) + 128 * highN t
theorem highN_snoc (a : List UInt8) (u : UInt8) : highN (a ++ [u]) = highN a + (u.toNat - 128) * 128 ^ a.length := by
  induction a with
  | nil => simp [highN]
  | cons c t ih =>
    simp only [List.cons_append, highN, List.length_cons, ih, Nat.mul_add]
    rw [Nat.pow_succ, Nat.mul_comm (128 ^ t.length) 128, ← Nat.mul_assoc, ← Nat.mul_assoc, Nat.mul_comm 128 (u.toNat - 128)]
    omega
theorem high_round {l : List UInt8} {k y x : Nat} {u : UInt8} (hu : l[k]? = some u) (hx : u.toNat = x + 128) (hlt : x < 128) (hy : y = highN (l.take k) ∧ y < 128 ^ k ∧ ∀ c ∈ l.take k, 128 ≤ c.toNat) :
    y + x * 128 ^ k = highN (l.take (k + 1)) ∧ y + x * 128 ^ k < 128 ^ (k + 1) ∧ ∀ c ∈ l.take (k + 1), 128 ≤ c.toNat := by
  have hk : k < l.length := (List.getElem?_eq_some_iff.1 hu).1
  rw [take_snoc hu]
  refine ⟨?_, ?_, ?_⟩
  · rw [highN_snoc, ← hy.1, List.length_take, Nat.min_eq_left (by omega), hx]
    simp
  · rw [Nat.pow_succ]
    have := Nat.mul_le_mul_right (128 ^ k) (show x ≤ 127 by omega)
    omega
  · intro c hc
    simp only [List.mem_append, List.mem_singleton] at hc
    rcases hc with hc | rfl
    · exact hy.2.2 c hc
    · omega
theorem torn_low {l : List UInt8} {u : UInt8} (h : l.length < 3) (hu : u ∈ l) (hl : u.toNat < 128) : tornB l = false := by
  match l, h with
  | [], _ => simp at hu
  | [c], _ =>
    simp at hu
    subst hu
    simp [tornB]
    omega
  | [c, d], _ =>
    simp at hu
    simp [tornB]
    rcases hu with rfl | rfl <;> omega
theorem torn_high {l : List UInt8} (h : l.length < 3) (ha : ∀ c ∈ l, 128 ≤ c.toNat) : tornB l = (decide (highN l % 2 = 0) && (decide (l.length = 0) || decide (highN l + 128 ^ l.length ≤ 16384))) := by
  match l, h with
  | [], _ => decide
  | [c], _ =>
    have := ha c (by simp)
    have hc := c.toNat_lt
    have e1 : highN [c] = c.toNat - 128 := by simp [highN]
    rw [e1]
    show (decide (128 ≤ c.toNat) && decide (c.toNat % 2 = 0)) = (decide ((c.toNat - 128) % 2 = 0) && (false || decide (c.toNat - 128 + 128 ≤ 16384)))
    rw [decide_eq_true this, decide_eq_true (show c.toNat - 128 + 128 ≤ 16384 by omega)]
    by_cases q : c.toNat % 2 = 0
    · rw [decide_eq_true q, decide_eq_true (show (c.toNat - 128) % 2 = 0 by omega)]; rfl
    · rw [decide_eq_false q, decide_eq_false (show ¬ (c.toNat - 128) % 2 = 0 by omega)]; rfl
  | [c, d], _ =>
    have h1 := ha c (by simp)
    have h2 := ha d (by simp)
    have hc := c.toNat_lt
    have hd := d.toNat_lt
    have e1 : highN [c, d] = (c.toNat - 128) + 128 * (d.toNat - 128) := by simp [highN]
    rw [e1]
    show (decide (c.toNat = 128) && decide (d.toNat = 128)) = (decide (((c.toNat - 128) + 128 * (d.toNat - 128)) % 2 = 0) && (false || decide ((c.toNat - 128) + 128 * (d.toNat - 128) + 16384 ≤ 16384)))
    by_cases q : (c.toNat - 128) + 128 * (d.toNat - 128) = 0
    · rw [q, decide_eq_true (show c.toNat = 128 by omega), decide_eq_true (show d.toNat = 128 by omega)]; rfl
    · rw [decide_eq_false (show ¬ (c.toNat - 128) + 128 * (d.toNat - 128) + 16384 ≤ 16384 by omega)]
      by_cases q1 : c.toNat = 128
      · rw [decide_eq_false (show ¬ d.toNat = 128 by omega)]; simp
      · rw [decide_eq_false q1]; simp
set_option maxHeartbeats 2000000 in
theorem torn_any (A : Option Addr) (n c : Nat) (l : List UInt8) (w : World) (hn : n ≤ 9223372036854775807) (hB : Bs w A n l) :
    Calls Tryz.prog 49 #[.slice A n c] w fun e w' => e = .returned (.bool (tornB l)) ∧ w = w' := by
  have hl := hB.len
  by_cases h3 : 3 ≤ n
  · have HE : Hid (tornB l = false) := by
      match l, hl with
      | a :: b :: c :: t, _ => exact Lib.hid rfl
      | [], hl => simp at hl; omega
      | [a], hl => simp at hl; omega
      | [a, b], hl => simp at hl; omega
    go_enter Tryz.func49, Tryz.ntmps49
    go_wp2_with fail
    go_ret
    exact ⟨by rw [HE.out]; rfl, rfl⟩
  have d3 : decide ((3 : Int) ≤ (n : Int)) = false := by simp; omega
  have HL := Lib.hid hl
  clear hl
  go_enter Tryz.func49, Tryz.ntmps49
  go_wp2_with fail
  go_loop [3, 12] (fun x i => ∃ k y : Nat, k ≤ n ∧ i = .int .i64 k ∧ x = .int .i64 (y : Int) ∧ y < 16384 ∧ Hid (y = highN (l.take k) ∧ y < 128 ^ k ∧ ∀ c ∈ l.take k, 128 ≤ c.toNat)) (fun _ i => n - (intOf i).toNat)
  case atStart => exact ⟨0, 0, Nat.zero_le _, rfl, rfl, by omega, Lib.hid ⟨rfl, by simp, by simp⟩⟩
  case round =>
    obtain ⟨k, y, hk, rfl, rfl, hy, HY⟩ := hrel
    by_cases hlt : k < n
    · obtain ⟨u, b, off, rfl, hu, hb, hc, h256⟩ := hB.at hlt
      by_cases h7 : u.toNat < 128
      · have HE : Hid (tornB l = false) := Lib.hid (torn_low (by rw [HL.out]; omega) (List.mem_of_getElem? hu.out) h7)
        have d7 : decide ((u.toNat : Int) < 128) = true := by simp; omega
        go_wp2_with fail
        go_ret
        exact ⟨by rw [HE.out]; rfl, rfl⟩
      · obtain ⟨x, hx1, hx2⟩ := sub128 u (by omega)
        have HN := Lib.hid (high_round hu.out hx2 hx1 HY.out)
        have e1 := shl7i x k hx1 (by omega)
        have e2 := or7i y x k HY.out.2.1 hx1 (by omega)
        have e3 : IntKind.i64.wrap ((x : Int) * 2 ^ (7 * k)) = ((x * 128 ^ k : Nat) : Int) := by rw [e1.1]; exact IntWalk.i64_in _ (by omega)
        have e4 : wrap64 ((x : Int) * 2 ^ (7 * k)) = ((x * 128 ^ k : Nat) : Int) := by rw [e1.1]; exact IntWalk.wrap64_in _ (by omega)
        have hz : y + x * 128 ^ k < 16384 := Nat.lt_of_lt_of_le HN.out.2.1 (pow_k (by omega))
        rw [hx2] at hc
        have hc : w.cell? ⟨b, off + k, none⟩ = some (.int .u8 ((x : Int) + 128)) := hc
        have d7 : decide ((x : Int) + 128 < 128) = false := by simp; omega
        have s7 : (x : Int) + 128 - 128 = (x : Int) := by omega
        clear HY e1 h7 hx2
        generalize x * 128 ^ k = p at *
        generalize y + p = z at *
        go_wp2_with fail
        go_round
        case rel => exact ⟨k + 1, z, by omega, by go_num, rfl, hz, HN⟩
        case measure => simp [intOf]; omega
    · obtain rfl : k = n := by omega
      have HH : Hid (y = highN l ∧ y < 128 ^ k ∧ ∀ c ∈ l, 128 ≤ c.toNat) := by
        have := HY.out
        rw [List.take_of_length_le (by rw [HL.out]; exact Nat.le_refl _)] at this
        exact Lib.hid this
      have HE := Lib.hid (torn_high (by rw [HL.out]; omega) HH.out.2.2)
      rw [← HH.out.1, HL.out] at HE
      have e1 := shl7i 1 k (by omega) (by omega)
      have e2 := or7i y 1 k HH.out.2.1 (by omega) (by omega)
      rw [Nat.one_mul] at e1 e2
      have e0 : (2 : Int) ^ (7 * k) = ((128 ^ k : Nat) : Int) := by rw [← e1.1]; simp
      have e1 := e1.2
      generalize 128 ^ k = p at *
      have e3 : IntKind.i64.wrap (2 ^ (7 * k)) = (p : Int) := by rw [e0]; exact IntWalk.i64_in _ (by omega)
      have e4 : wrap64 (2 ^ (7 * k)) = (p : Int) := by rw [e0]; exact IntWalk.wrap64_in _ (by omega)
      have e6 : bits .or .i64 (y : Int) (2 ^ (7 * k)) = (y : Int) + (p : Int) := by rw [e0, e2]; simp
      have e2 : bits .or .i64 (y : Int) (p : Int) = (y : Int) + (p : Int) := by rw [e2]; simp
      have e5 := i64_and1 y (by omega)
      clear HY HH e0
      by_cases c1 : y % 2 = 0
      · have c1' : ((y % 2 : Nat) : Int) = 0 := by omega
        rw [c1'] at e5
        by_cases c2 : k = 0
        · have HE : Hid (tornB l = true) := by rw [HE.out]; exact Lib.hid (by simp [c1, c2])
          have d2 : ((k : Int) == 0) = true := by simp; omega
          go_wp2_with fail
          go_ret
          exact ⟨by rw [HE.out]; rfl, rfl⟩
        · have d2 : ((k : Int) == 0) = false := by simp; omega
          by_cases c3 : y + p ≤ 16384
          · have HE : Hid (tornB l = true) := by rw [HE.out]; exact Lib.hid (by simp [c1, c3])
            have d4 : decide ((y : Int) + (p : Int) ≤ 16384) = true := by simp; omega
            go_wp2_with fail
            go_ret
            exact ⟨by rw [HE.out]; rfl, rfl⟩
          · have HE : Hid (tornB l = false) := by rw [HE.out]; exact Lib.hid (by simp [c1, c2, c3])
            have d4 : decide ((y : Int) + (p : Int) ≤ 16384) = false := by simp; omega
            go_wp2_with fail
            go_ret
            exact ⟨by rw [HE.out]; rfl, rfl⟩
      · have c1' : ((y % 2 : Nat) : Int) = 1 := by omega
        rw [c1'] at e5
        have HE : Hid (tornB l = false) := by rw [HE.out]; exact Lib.hid (by simp [c1])
        go_wp2_with fail
        go_ret
        exact ⟨by rw [HE.out]; rfl, rfl⟩

/-- what comes of Next: fresh bytes -/
def RetX (w : World) (r : List UInt8 × Nat × Int) (e : Ending) (w' : World) : Prop := ∃ A n c, e = .returned (.tuple #[.slice A n c, .int .i64 (r.2.1 : Int), .int .i64 r.2.2]) ∧ Ow w' w.heap.size A n c r.1 ∧ Below w.heap.size w w'
theorem RetX.none_ (w : World) {r : List UInt8 × Nat × Int} {s : Int} (h : r = ([], 0, s)) : RetX w r (.returned (.tuple #[.slice none 0 0, .int .i64 0, .int .i64 s])) w := by
  subst h
  exact ⟨none, 0, 0, rfl, Ow.nil, Below.refl _ _⟩
set_option maxHeartbeats 2000000 in
theorem next17_any (A : Option Addr) (n c : Nat) (l : List UInt8) (w : World) (hn : n ≤ 140737488350000) (hnc : n ≤ c) (hc63 : c ≤ 9223372036854775807) (hB : Bs w A n l) (ht : Tab w) :
    Calls Tryz.prog 26 #[.slice A n c] w (RetX w (nextL l)) := by
  have hl := hB.len
  have HG := Lib.hid (get_any A n c l w (by omega) hnc hB)
  cases hg : getL l with
  | none =>
    have HT := Lib.hid (torn_any A n c l w (by omega) hB)
    have HE := Lib.hid (next_none hg)
    rw [hg] at HG
    clear hg
    cases htb : tornB l with
    | true =>
      rw [htb] at HT HE
      clear htb
      go_enter Tryz.func26, Tryz.ntmps26
      go_wp2_with fail
      refine HG.out.mono ?_
      rintro e w1 ⟨rfl, rfl⟩
      simp only [gotV]
      go_wp2_with fail
      refine HT.out.mono ?_
      rintro e w1 ⟨rfl, rfl⟩
      go_wp2_with fail
      go_ret3
      exact RetX.none_ w HE.out
    | false =>
      rw [htb] at HT HE
      clear htb
      go_enter Tryz.func26, Tryz.ntmps26
      go_wp2_with fail
      refine HG.out.mono ?_
      rintro e w1 ⟨rfl, rfl⟩
      simp only [gotV]
      go_wp2_with fail
      refine HT.out.mono ?_
      rintro e w1 ⟨rfl, rfl⟩
      go_wp2_with fail
      go_ret3
      exact RetX.none_ w HE.out
  | some r =>
    obtain ⟨m, k⟩ := r
    obtain ⟨_, _, hkl, hk0, hk8⟩ := put_get hg
    rw [hg] at HG
    by_cases h1 : m < 1 ∨ 8192 < m
    · have HE := Lib.hid (next_num hg h1)
      clear hg
      by_cases h2 : m < 1
      · have d1 : decide (m < 1) = true := by simp; omega
        go_enter Tryz.func26, Tryz.ntmps26
        go_wp2_with fail
        refine HG.out.mono ?_
        rintro e w1 ⟨rfl, rfl⟩
        simp only [gotV]
        go_wp2_with fail
        go_ret3
        exact RetX.none_ w HE.out
      · have d1 : decide (m < 1) = false := by simp; omega
        have d2 : decide (8192 < m) = true := by simp; omega
        go_enter Tryz.func26, Tryz.ntmps26
        go_wp2_with fail
        refine HG.out.mono ?_
        rintro e w1 ⟨rfl, rfl⟩
        simp only [gotV]
        go_wp2_with fail
        go_ret3
        exact RetX.none_ w HE.out
    have d1 : decide (m < 1) = false := by simp; omega
    have d2 : decide (8192 < m) = false := by simp; omega
    by_cases h2 : (l.length : Int) < k + m + 4
    · have HE := Lib.hid (next_short hg h1 h2)
      clear hg
      have d3 : decide ((n : Int) - (k : Int) < m + 4) = true := by simp; omega
      go_enter Tryz.func26, Tryz.ntmps26
      go_wp2_with fail
      refine HG.out.mono ?_
      rintro e w1 ⟨rfl, rfl⟩
      simp only [gotV]
      go_wp2_with fail
      go_ret3
      exact RetX.none_ w HE.out
    have HE := Lib.hid (next_long hg h1 h2)
    obtain ⟨j, rfl⟩ : ∃ j : Nat, m = (j : Int) := ⟨m.toNat, by omega⟩
    rw [Int.toNat_natCast] at HE
    clear hg
    have d3 : decide ((n : Int) - (k : Int) < (j : Int) + 4) = false := by simp; omega
    have hck : ¬ c = k := by omega
    have hcut := hB.cut (k := k) (cap := c) (by omega) hnc
    rw [if_neg hck] at hcut
    obtain ⟨u, b, off, rfl, _⟩ := hB.at (k := 0) (by omega)
    have hcut2 := hcut.upto (k := j + 4) (by omega)
    have hck2 : (((k : Int) + (j : Int) + 4) - (k : Int)).toNat = j + 4 := by omega
    have b1 : (k : Int) ≤ (k : Int) + (j : Int) + 4 := by omega
    have b2 : (k : Int) + (j : Int) + 4 ≤ (c : Int) := by omega
    simp only [Option.map_some, add_lit] at hcut2
    have HO := Lib.hid (open_any (some ⟨b, off + k, none⟩) (k + j + 4 - k) (c - k) ((l.drop k).take (j + 4)) w (by omega) (by rw [show k + j + 4 - k = j + 4 by omega]; exact hcut2) ht (by omega))
    generalize openL ((l.drop k).take (j + 4)) = r at *
    obtain ⟨rl, rb⟩ := r
    go_enter Tryz.func26, Tryz.ntmps26
    go_wp2_with fail
    refine HG.out.mono ?_
    rintro e w1 ⟨rfl, rfl⟩
    simp only [gotV]
    go_wp2_with fail
    refine HO.out.mono ?_
    rintro e w1 ⟨A1, n1, c1, rfl, ho1, B1⟩
    cases rb with
    | true =>
      go_wp2_with fail
      go_ret3
      rw [HE.out]
      exact ⟨A1, n1, c1, by simp, ho1, B1⟩
    | false =>
      go_wp2_with fail
      go_ret3
      rw [HE.out]
      exact ⟨none, 0, 0, rfl, Ow.nil, B1⟩
end Go.Proofs.YtfepinnfhcjopaaGreatDoor
end
section
namespace Go.Proofs.YtfepinnfhcjopaaGreatDoor
open Go.RowKit Go.Nst
set_option maxRecDepth 100000
set_option linter.unusedVariables false
set_option linter.unusedSimpArgs false

theorem bs_place {w : World} {A : Option Addr} {n : Nat} {l : List UInt8} (h : Bs w A n l) {ad : Addr} (e : A = some ad) (hn : 0 < n) : ad.block < w.heap.size := by
  obtain ⟨ad', e', hb, _⟩ := h.2 hn
  rw [e] at e'
  injection e' with e'
  subst e'
  exact hb
def RetP2 (A0 : Option Addr) (w : World) (r : List UInt8 × Bool) (e : Ending) (w' : World) : Prop := ∃ A n c, e = .returned (.tuple #[.slice A n c, .bool r.2]) ∧ Bs w' A n r.1 ∧ Below w.heap.size w w' ∧ n ≤ c ∧ ∀ ad, A = some ad → 0 < n → ∃ a0, A0 = some a0 ∧ ad.block = a0.block

set_option maxHeartbeats 1000000 in
theorem refOpen2_any (A : Option Addr) (n c : Nat) (l : List UInt8) (w : World) (hn : n ≤ 140737488350000) (hB : Bs w A n l) (hnc : n ≤ c) :
    Calls Tryz.prog 54 #[.slice A n c] w (RetP2 A w (openL l)) := by
  by_cases h4 : n < 4
  · have hd : decide ((n : Int) - 4 < 0) = true := by simp; omega
    have HO : Hid (openL l = ([], false)) := by
      unfold openL
      rw [if_pos (.inl (by rw [hB.len]; exact h4))]
      exact Lib.hid rfl
    go_enter Tryz.func54, Tryz.ntmps54
    go_wp2_with fail
    go_quiet (fail)
    go_wp2_with fail
    go_ret2
    exact ⟨none, 0, 0, by rw [HO.out]; rfl, by rw [HO.out]; exact Bs.nil, below_drewN (Below.refl _ _) nq, Nat.le_refl _, fun _ _ h => absurd h (by omega)⟩
  · obtain ⟨m, hm⟩ : ∃ m, n = m + 4 := ⟨n - 4, by omega⟩
    have e4 : (n : Int) - 4 = (m : Int) := by omega
    have hd : decide ((m : Int) < 0) = false := by simp
    have b1 : (m : Int) ≤ (c : Int) := by omega
    have b2 : (0 : Int) ≤ (m : Int) := by omega
    have b3 : (m : Int) ≤ (n : Int) := by omega
    have b4 : m ≤ n := by omega
    have HI := Lib.hid (seal_iff l m (by rw [hB.len]; exact hm))
    have HO : Hid (openL l = if leN (l.drop m) ≠ crcSum (l.take m) then ([], false) else (l.take m, true)) := openL_eq (by rw [hB.len]; exact hm)
    clear hm
    have hUp := hB.upto b4
    have HS := Lib.hid (fun W (hb : Below w.heap.size w W) => refSeal_any A m c (l.take m) W (by omega) (hUp.below hb))
    have ks := fun W (hb : Below w.heap.size w W) => (hB.below hb).str (P := Tryz.prog) 22 9 5 c Tryz.underlying22 Tryz.underlying5 Tryz.underlying9
    by_cases hx : sealL (l.take m) = l
    · have heq : (sealL (l.take m) == l) = true := by rw [beq_iff_eq]; exact hx
      have HO2 : Hid (openL l = (l.take m, true)) := by rw [HO.out, if_neg (by simpa using HI.out.1 hx)]; exact Lib.hid rfl
      clear hx HO
      generalize sealL (l.take m) = y at *
      go_enter Tryz.func54, Tryz.ntmps54
      go_wp2_with fail
      refine wp_region_seq (by kernel_rfl) [(0, true), (1, true), (2, true), (3, true), (4, true), (5, true), (8, true), (9, true), (6, false), (7, true), (10, true), (11, true)] (by kernel_rfl) rfl (by kernel_rfl) ?_
      intro w0 hb0
      have tr0 : ∀ W, Below w0.heap.size w0 W → Below w.heap.size w W := fun W h => bel_step hb0 h
      iterate 8 (refine wpSeq_take (o := ⟨_, _, _, _, _, _⟩) (v := ?_) rfl rfl ?_ ?_; rotate_left; (focus (intro W hW; go_simp; first | done | with_reducible rfl)); simp only [Act.put, List.setIfInBounds_toArray, List.set_cons_zero, List.set_cons_succ])
      refine wpSeq_exec (o := ⟨_, _, _, _, _, _⟩) rfl rfl (fun K hK => ?_)
      go_simp
      refine (HS.out w0 hb0).mono ?_
      rintro e w1 ⟨A1, n1, c1, rfl, ho1, hb1⟩
      go_wp2_with fail
      refine hK _ _ hb1 ?_
      clear hK K
      have S1 := bel_step hb0 hb1
      have ks1 := fun W (hb : Below w1.heap.size w1 W) => (ho1.bs.below hb).str (P := Tryz.prog) 22 9 5 c1 Tryz.underlying22 Tryz.underlying5 Tryz.underlying9
      iterate 3 (refine wpSeq_take (o := ⟨_, _, _, _, _, _⟩) (v := ?_) rfl rfl ?_ ?_; rotate_left; (focus (intro W hW; go_simp; first | done | with_reducible rfl)); simp only [Act.put, List.setIfInBounds_toArray, List.set_cons_zero, List.set_cons_succ])
      refine wpSeq_nil ?_
      go_wp2_with fail
      go_ret2
      rw [HO2.out]
      exact ⟨A, m, c, rfl, hUp.below S1, S1, by omega, fun ad e h => ⟨ad, e, rfl⟩⟩
    · have heq : (sealL (l.take m) == l) = false := by rw [beq_eq_false_iff_ne]; exact hx
      have HO2 : Hid (openL l = ([], false)) := by rw [HO.out, if_pos (by intro h; exact hx (HI.out.2 h))]; exact Lib.hid rfl
      clear hx HO
      generalize sealL (l.take m) = y at *
      go_enter Tryz.func54, Tryz.ntmps54
      go_wp2_with fail
      refine wp_region_seq (by kernel_rfl) [(0, true), (1, true), (2, true), (3, true), (4, true), (5, true), (8, true), (9, true), (6, false), (7, true), (10, true), (11, true)] (by kernel_rfl) rfl (by kernel_rfl) ?_
      intro w0 hb0
      have tr0 : ∀ W, Below w0.heap.size w0 W → Below w.heap.size w W := fun W h => bel_step hb0 h
      iterate 8 (refine wpSeq_take (o := ⟨_, _, _, _, _, _⟩) (v := ?_) rfl rfl ?_ ?_; rotate_left; (focus (intro W hW; go_simp; first | done | with_reducible rfl)); simp only [Act.put, List.setIfInBounds_toArray, List.set_cons_zero, List.set_cons_succ])
      refine wpSeq_exec (o := ⟨_, _, _, _, _, _⟩) rfl rfl (fun K hK => ?_)
      go_simp
      refine (HS.out w0 hb0).mono ?_
      rintro e w1 ⟨A1, n1, c1, rfl, ho1, hb1⟩
      go_wp2_with fail
      refine hK _ _ hb1 ?_
      clear hK K
      have S1 := bel_step hb0 hb1
      have ks1 := fun W (hb : Below w1.heap.size w1 W) => (ho1.bs.below hb).str (P := Tryz.prog) 22 9 5 c1 Tryz.underlying22 Tryz.underlying5 Tryz.underlying9
      iterate 3 (refine wpSeq_take (o := ⟨_, _, _, _, _, _⟩) (v := ?_) rfl rfl ?_ ?_; rotate_left; (focus (intro W hW; go_simp; first | done | with_reducible rfl)); simp only [Act.put, List.setIfInBounds_toArray, List.set_cons_zero, List.set_cons_succ])
      refine wpSeq_nil ?_
      go_wp2_with fail
      go_ret2
      rw [HO2.out]
      exact ⟨none, 0, 0, rfl, Bs.nil, S1, Nat.le_refl _, fun _ _ h => absurd h (by omega)⟩


set_option maxHeartbeats 1000000 in
theorem refPut17_any (A : Option Addr) (n c : Nat) (l : List UInt8) (w : World) (hn : n ≤ 100000) (hB : Bs w A n l) :
    Calls Tryz.prog 15 #[.slice A n c] w (RetB w (frameL l)) := by
  have hl := hB.len
  have HE : Hid (frameL l = putL (zig n) ++ sealL l) := by unfold frameL; rw [hl]; exact Lib.hid rfl
  have HP := Lib.hid (refPut_any n w (by rw [mayB_iff]; omega))
  have hpl := (putL_len (zig n)).2
  have HS := Lib.hid (fun W (hb : Below w.heap.size w W) => refSeal_any A n c l W (by omega) (hB.below hb))
  have hsl := seal_len l
  generalize putL (zig n) = p at *
  generalize sealL l = q at *
  go_enter Tryz.func15, Tryz.ntmps15
  go_wp2_with fail
  refine HP.out.mono ?_
  rintro e w1 ⟨A1, n1, c1, rfl, ho1, B1⟩
  have hn1 := ho1.len
  go_wp2_with fail
  refine (HS.out _ B1).mono ?_
  rintro e w2 ⟨A2, n2, c2, rfl, ho2, hb2⟩
  have hn2 := ho2.len
  have q1 := ho1.below hb2
  have B2 := bel_step B1 hb2
  have hs2 := B2.size
  clear hb2 ho1
  go_wp2_with (at_builtin; refine wpList_appBg _ iBytes rfl rfl rfl q1 rfl ho2.bs (n1 + n2) (p ++ q) rfl rfl (by omega) hs2 ?_; intro A' c' w' ho hb _ _)
  go_ret
  rw [HE.out]
  exact ⟨A', n1 + n2, c', rfl, ho, B2.trans hb⟩

theorem numB_yes {l : List UInt8} {k : Nat} (h1 : 1 ≤ k) (h2 : k ≤ 8192) (h : numAt l k = true) : numB l = true := by
  unfold numB
  rw [List.any_eq_true]
  exact ⟨k - 1, by simp; omega, by rw [show k - 1 + 1 = k by omega]; exact h⟩
theorem numB_not {l : List UInt8} (h : ∀ i, 1 ≤ i → i < 8193 → numAt l i = false) : numB l = false := by
  unfold numB
  rw [List.any_eq_false]
  intro i hi
  rw [h (i + 1) (by omega) (by simp at hi; omega)]
  simp
theorem numAt_eq {l p : List UInt8} {k n : Nat} (hl : l.length = n) (hp : putL (zig (k : Int)) = p) : numAt l k = (decide (n < p.length) && (p.take n == l)) := by
  have hz : zig (k : Int) = 2 * k := by unfold zig; rw [if_pos (by omega)]; omega
  unfold numAt
  rw [← hz, hp, hl]

set_option maxHeartbeats 4000000 in
theorem number_any (A : Option Addr) (n c : Nat) (l : List UInt8) (w : World) (hn : n ≤ 100000) (hnc : n ≤ c) (hB : Bs w A n l) :
    Calls Tryz.prog 53 #[.slice A n c] w fun e w' => e = .returned (.bool (numB l)) ∧ Below w.heap.size w w' := by
  have HL := Lib.hid hB.len
  go_enter Tryz.func53, Tryz.ntmps53
  go_wp2_with fail
  go_loopw [3] (fun i wr => ∃ k : Nat, i = .int .i64 (k : Int) ∧ 1 ≤ k ∧ k ≤ 8193 ∧ Below w.heap.size w wr ∧ Hid (∀ i, 1 ≤ i → i < k → numAt l i = false)) (fun i _ => 8193 - (intOf i).toNat)
  case atStart => exact ⟨1, rfl, by omega, by omega, Below.refl _ _, Lib.hid (fun i h1 h2 => by omega)⟩
  case round =>
    obtain ⟨k, rfl, hk1, hk2, hbw, HA⟩ := hrel
    by_cases hlt : k ≤ 8192
    · have d0 : decide ((k : Int) ≤ 8192) = true := by simp; omega
      have HP := Lib.hid (refPut_any (k : Int) wr (by rw [mayB_iff]; omega))
      have HN := Lib.hid (numAt_eq HL.out (rfl : putL (zig (k : Int)) = _))
      generalize putL (zig (k : Int)) = p at *
      go_wp2_with fail
      refine HP.out.mono ?_
      rintro e w1 ⟨A1, n1, c1, rfl, ho1, hb1⟩
      have B1 := bel_step hbw hb1
      have hn1 := ho1.len
      have hc1 := ho1.cap
      have q1 := ho1.bs
      rw [hn1] at HN
      have ks0 := fun W (hb : Below w1.heap.size w1 W) => ((hB.below B1).below hb).str (P := Tryz.prog) 22 9 5 c Tryz.underlying22 Tryz.underlying5 Tryz.underlying9
      by_cases hnn : n < n1
      · have d1 : decide ((n : Int) < (n1 : Int)) = true := by simp; omega
        have b1 : (n : Int) ≤ (c1 : Int) := by omega
        have b2 : (0 : Int) ≤ (n : Int) := by omega
        have q2 := q1.upto (k := n) (by omega)
        have ks1 := fun W (hb : Below w1.heap.size w1 W) => (q2.below hb).str (P := Tryz.prog) 22 9 5 c1 Tryz.underlying22 Tryz.underlying5 Tryz.underlying9
        rw [decide_eq_true hnn, Bool.true_and] at HN
        have HX : ∃ bb, (p.take n == l) = bb := ⟨_, rfl⟩
        obtain ⟨bb, heq⟩ := HX
        rw [heq] at HN
        cases bb with
        | true =>
          have HF := Lib.hid (numB_yes hk1 hlt HN.out)
          go_wp2_with fail
          refine wp_region_seq (by kernel_rfl) [(0, true), (1, true), (2, true), (3, true), (4, true), (5, true), (6, true), (7, true), (8, true), (9, true), (10, true), (11, true), (12, true), (13, true), (14, true)] (by kernel_rfl) rfl (by kernel_rfl) ?_
          intro w2 hb2
          have tr2 : ∀ W, Below w2.heap.size w2 W → Below w1.heap.size w1 W := fun W h => bel_step hb2 h
          iterate 15 (refine wpSeq_take (o := ⟨_, _, _, _, _, _⟩) (v := ?_) rfl rfl ?_ ?_; rotate_left; (focus (intro W hW; go_simp; first | done | with_reducible rfl)); simp only [Act.put, List.setIfInBounds_toArray, List.set_cons_zero, List.set_cons_succ])
          refine wpSeq_nil ?_
          go_wp2_with fail
          go_ret
          exact ⟨by rw [HF.out]; rfl, bel_step B1 hb2⟩
        | false =>
          go_wp2_with fail
          refine wp_region_seq (by kernel_rfl) [(0, true), (1, true), (2, true), (3, true), (4, true), (5, true), (6, true), (7, true), (8, true), (9, true), (10, true), (11, true), (12, true), (13, true), (14, true)] (by kernel_rfl) rfl (by kernel_rfl) ?_
          intro w2 hb2
          have tr2 : ∀ W, Below w2.heap.size w2 W → Below w1.heap.size w1 W := fun W h => bel_step hb2 h
          iterate 15 (refine wpSeq_take (o := ⟨_, _, _, _, _, _⟩) (v := ?_) rfl rfl ?_ ?_; rotate_left; (focus (intro W hW; go_simp; first | done | with_reducible rfl)); simp only [Act.put, List.setIfInBounds_toArray, List.set_cons_zero, List.set_cons_succ])
          refine wpSeq_nil ?_
          go_wp2_with fail
          go_roundw
          case rel => exact ⟨k + 1, by go_num, by omega, by omega, bel_step B1 hb2, Lib.hid (fun i h1 h2 => by by_cases e : i = k; (· subst e; exact HN.out); (· exact HA.out i h1 (by omega)))⟩
          case measure => simp [intOf]; omega
      · have d1 : decide ((n : Int) < (n1 : Int)) = false := by simp; omega
        rw [decide_eq_false hnn, Bool.false_and] at HN
        go_wp2_with fail
        refine wp_region_seq (by kernel_rfl) [(0, true), (1, true), (2, true), (3, true), (4, true), (5, true), (6, true), (7, true), (8, true), (9, true), (10, true), (11, true), (12, true), (13, true), (14, true)] (by kernel_rfl) rfl (by kernel_rfl) ?_
        intro w2 hb2
        iterate 6 (refine wpSeq_take (o := ⟨_, _, _, _, _, _⟩) (v := ?_) rfl rfl ?_ ?_; rotate_left; (focus (intro W hW; go_simp; first | done | with_reducible rfl)); simp only [Act.put, List.setIfInBounds_toArray, List.set_cons_zero, List.set_cons_succ])
        iterate 8 (refine wpSeq_skip (o := ⟨_, _, _, _, _, _⟩) rfl rfl ?_; simp only [Act.put, List.setIfInBounds_toArray, List.set_cons_zero, List.set_cons_succ])
        iterate 1 (refine wpSeq_take (o := ⟨_, _, _, _, _, _⟩) (v := ?_) rfl rfl ?_ ?_; rotate_left; (focus (intro W hW; go_simp; first | done | with_reducible rfl)); simp only [Act.put, List.setIfInBounds_toArray, List.set_cons_zero, List.set_cons_succ])
        refine wpSeq_nil ?_
        go_wp2_with fail
        go_roundw
        case rel => exact ⟨k + 1, by go_num, by omega, by omega, bel_step B1 hb2, Lib.hid (fun i h1 h2 => by by_cases e : i = k; (· subst e; exact HN.out); (· exact HA.out i h1 (by omega)))⟩
        case measure => simp [intOf]; omega
    · have d0 : decide ((k : Int) ≤ 8192) = false := by simp; omega
      have HF := Lib.hid (numB_not (l := l) (fun i h1 h2 => HA.out i h1 (by omega)))
      go_wp2_with fail
      go_ret
      exact ⟨by rw [HF.out]; rfl, hbw⟩
/-- what comes of the reference's Next: bytes that were there -/
def RetY (A0 : Option Addr) (w : World) (r : List UInt8 × Nat × Int) (e : Ending) (w' : World) : Prop := ∃ A n c, e = .returned (.tuple #[.slice A n c, .int .i64 (r.2.1 : Int), .int .i64 r.2.2]) ∧ Bs w' A n r.1 ∧ Below w.heap.size w w' ∧ n ≤ c ∧ ∀ ad, A = some ad → 0 < n → ∃ a0, A0 = some a0 ∧ ad.block = a0.block
theorem RetY.none_ {A0 : Option Addr} {w w' : World} {r : List UInt8 × Nat × Int} {s : Int} (hb : Below w.heap.size w w') (h : r = ([], 0, s))   : RetY A0 w r (.returned (.tuple #[.slice none 0 0, .int .i64 0, .int .i64 s])) w' := by
  subst h
  exact ⟨none, 0, 0, rfl, Bs.nil, hb, Nat.le_refl _, fun _ _ h => absurd h (by omega)⟩
set_option maxHeartbeats 2000000 in
theorem refNext17_any (A : Option Addr) (n c : Nat) (l : List UInt8) (w : World) (hn : n ≤ 100000) (hnc : n ≤ c) (hc63 : c ≤ 9223372036854775807) (hB : Bs w A n l) :
    Calls Tryz.prog 28 #[.slice A n c] w (RetY A w (nextL l)) := by
  have hl := hB.len
  have HG := Lib.hid (refGet_any A n c l w hB)
  cases hg : getL l with
  | none =>
    have HE := Lib.hid (next_none hg)
    rw [hg] at HG
    clear hg
    by_cases h3 : n < 3
    · have d3 : decide ((n : Int) < 3) = true := by simp; omega
      have HT := Lib.hid (number_any A n c l w hn hnc hB)
      rw [numB_torn l (by omega)] at HT
      cases htb : tornB l with
      | true =>
        rw [htb] at HT HE
        clear htb
        go_enter Tryz.func28, Tryz.ntmps28
        go_wp2_with fail
        refine HG.out.mono ?_
        rintro e w1 ⟨rfl, rfl⟩
        simp only [gotR]
        go_wp2_with fail
        refine HT.out.mono ?_
        rintro e w1 ⟨rfl, B1⟩
        go_wp2_with fail
        go_ret3
        exact RetY.none_ B1 HE.out
      | false =>
        rw [htb] at HT HE
        clear htb
        go_enter Tryz.func28, Tryz.ntmps28
        go_wp2_with fail
        refine HG.out.mono ?_
        rintro e w1 ⟨rfl, rfl⟩
        simp only [gotR]
        go_wp2_with fail
        refine HT.out.mono ?_
        rintro e w1 ⟨rfl, B1⟩
        go_wp2_with fail
        go_ret3
        exact RetY.none_ B1 HE.out
    · have d3 : decide ((n : Int) < 3) = false := by simp; omega
      have htb : tornB l = false := by
        match l, hl with
        | a :: b :: c :: t, _ => rfl
        | [], hl => simp at hl; omega
        | [a], hl => simp at hl; omega
        | [a, b], hl => simp at hl; omega
      rw [htb] at HE
      clear htb
      go_enter Tryz.func28, Tryz.ntmps28
      go_wp2_with fail
      refine HG.out.mono ?_
      rintro e w1 ⟨rfl, rfl⟩
      simp only [gotR]
      go_wp2_with fail
      go_ret3
      exact RetY.none_ (Below.refl _ _) HE.out
  | some r =>
    obtain ⟨m, k⟩ := r
    obtain ⟨_, _, hkl, hk0, hk8⟩ := put_get hg
    rw [hg] at HG
    by_cases h1 : m < 1 ∨ 8192 < m
    · have HE := Lib.hid (next_num hg h1)
      clear hg
      by_cases h2 : m < 1
      · have d1 : decide (m < 1) = true := by simp; omega
        go_enter Tryz.func28, Tryz.ntmps28
        go_wp2_with fail
        refine HG.out.mono ?_
        rintro e w1 ⟨rfl, rfl⟩
        simp only [gotR]
        go_wp2_with fail
        go_ret3
        exact RetY.none_ (Below.refl _ _) HE.out
      · have d1 : decide (m < 1) = false := by simp; omega
        have d2 : decide (8192 < m) = true := by simp; omega
        go_enter Tryz.func28, Tryz.ntmps28
        go_wp2_with fail
        refine HG.out.mono ?_
        rintro e w1 ⟨rfl, rfl⟩
        simp only [gotR]
        go_wp2_with fail
        go_ret3
        exact RetY.none_ (Below.refl _ _) HE.out
    have d1 : decide (m < 1) = false := by simp; omega
    have d2 : decide (8192 < m) = false := by simp; omega
    by_cases h2 : (l.length : Int) < k + m + 4
    · have HE := Lib.hid (next_short hg h1 h2)
      clear hg
      have d3 : decide ((n : Int) < (k : Int) + m + 4) = true := by simp; omega
      go_enter Tryz.func28, Tryz.ntmps28
      go_wp2_with fail
      refine HG.out.mono ?_
      rintro e w1 ⟨rfl, rfl⟩
      simp only [gotR]
      go_wp2_with fail
      go_ret3
      exact RetY.none_ (Below.refl _ _) HE.out
    have HE := Lib.hid (next_long hg h1 h2)
    obtain ⟨j, rfl⟩ : ∃ j : Nat, m = (j : Int) := ⟨m.toNat, by omega⟩
    rw [Int.toNat_natCast] at HE
    clear hg
    have d3 : decide ((n : Int) < (k : Int) + (j : Int) + 4) = false := by simp; omega
    have hck : ¬ c = k := by omega
    have hcut := hB.cut (k := k) (cap := c) (by omega) hnc
    rw [if_neg hck] at hcut
    obtain ⟨u, b, off, rfl, _⟩ := hB.at (k := 0) (by omega)
    have hcut2 := hcut.upto (k := j + 4) (by omega)
    have hck2 : (((k : Int) + (j : Int) + 4) - (k : Int)).toNat = j + 4 := by omega
    have b1 : (k : Int) ≤ (k : Int) + (j : Int) + 4 := by omega
    have b2 : (k : Int) + (j : Int) + 4 ≤ (c : Int) := by omega
    simp only [Option.map_some, add_lit] at hcut2
    have HO := Lib.hid (refOpen2_any (some ⟨b, off + k, none⟩) (k + j + 4 - k) (c - k) ((l.drop k).take (j + 4)) w (by omega) (by rw [show k + j + 4 - k = j + 4 by omega]; exact hcut2) (by omega))
    generalize openL ((l.drop k).take (j + 4)) = r at *
    obtain ⟨rl, rb⟩ := r
    go_enter Tryz.func28, Tryz.ntmps28
    go_wp2_with fail
    refine HG.out.mono ?_
    rintro e w1 ⟨rfl, rfl⟩
    simp only [gotR]
    go_wp2_with fail
    refine HO.out.mono ?_
    rintro e w1 ⟨A1, n1, c1, rfl, ho1, B1, hp1, hp2⟩
    cases rb with
    | true =>
      go_wp2_with fail
      go_ret3
      rw [HE.out]
      exact ⟨A1, n1, c1, by simp, ho1, B1, hp1, fun ad e h => by obtain ⟨a0, e0, e1⟩ := hp2 ad e h; injection e0 with e0; subst e0; exact ⟨_, rfl, e1⟩⟩
    | false =>
      go_wp2_with fail
      go_ret3
      rw [HE.out]
      exact RetY.none_ B1 rfl
end Go.Proofs.YtfepinnfhcjopaaGreatDoor
end
section
namespace Go.Proofs.YtfepinnfhcjopaaGreatDoor
open Go.RowKit Go.Nst
set_option maxRecDepth 100000
set_option linter.unusedVariables false
set_option linter.unusedSimpArgs false

theorem iParts : Info Tryz.prog 24 22 (.slice none 0 0) 1 24 := Info.mk_ Tryz.underlying24 (by kernel_rfl) rfl (by omega)
/-- a row of the call's own, of slices of bytes; each reads as its bytes and lies elsewhere -/
structure Pr (w : World) (base : Nat) (A : Option Addr) (n c : Nat) (ps : List Part) : Prop where
  own : w.ownsRow base 22 1 (.slice A n c) n (ps.map Part.val)
  bs : ∀ p ∈ ps, Bs w p.A p.n p.l
  apart : ∀ p ∈ ps, ∀ ad, p.A = some ad → 0 < p.n → (Value.slice A n c).ownBlock ≠ some ad.block
theorem Pr.nil {w : World} {base : Nat} : Pr w base none 0 0 [] := ⟨World.ownsRow_nil _ _ _ _, by simp, by simp⟩
theorem Pr.below {w w' : World} {base n c : Nat} {A : Option Addr} {ps : List Part} (h : Pr w base A n c ps) (hb : Below w.heap.size w w') : Pr w' base A n c ps := by
  refine ⟨⟨h.own.1, ?_⟩, fun p hp => (h.bs p hp).below hb, h.apart⟩
  rcases h.own.2 with h2 | ⟨g, cap, cur, hv, hg, hh, r⟩
  · exact .inl h2
  · exact .inr ⟨g, cap, cur, hv, hg, (hb.block g (Array.getElem?_eq_some_iff.1 hh).1).trans hh, r⟩
theorem Pr.reads {w : World} {base n c : Nat} {A : Option Addr} {ps : List Part} (h : Pr w base A n c ps) : Reads w w.heap.size 1 A n (ps.map Part.val) := Reads.of_own h.own
theorem Pr.len {w : World} {base n c : Nat} {A : Option Addr} {ps : List Part} (h : Pr w base A n c ps) : ps.length = n := by have := h.reads.1; simpa using this
theorem one_part (w : World) (t : TypeId) (p : Part) : Reads (w.alloc (.cells #[.slice p.A p.n p.c] t)) (w.alloc (.cells #[.slice p.A p.n p.c] t)).heap.size 1 (some ⟨w.heap.size, 0, none⟩) 1 ([p].map Part.val) := by
  refine ⟨rfl, fun _ => ⟨_, rfl, by simp, fun j u hu => ?_⟩⟩
  rw [add_lit, Nat.zero_add, (Blk.new w t _).cell]
  match j, hu with
  | 0, hu => simpa [Part.val] using hu
  | k + 1, hu => simp at hu
theorem val_one (ps : List Part) : ∀ u ∈ ps.map Part.val, u.oneCell' = true := by
  intro u hu
  simp only [List.mem_map] at hu
  obtain ⟨x, _, rfl⟩ := hu
  rfl
/-- append of one slice of bytes -/
theorem wpList_appP (w : World) {ops : Array Oper} {rest : List Oper} {o : Oper} {a : Act} {Q : Exit → Act → World → Prop} {s x : Operand} (hgd : o.guard = none)
    (ho : o.op = .call { callee := .builtin .append, args := #[s, x], argTypes := #[24, 24] })
    {base : Nat} {A0 : Option Addr} {n c0 : Nat} {ps : List Part} (hs : a.eval s = .slice A0 n c0) (hown : Pr w base A0 n c0 ps)
    {A : Option Addr} {c : Nat} (p : Part) (hx : a.eval x = .slice A 1 c) (hr : Reads w w.heap.size 1 A 1 ([p].map Part.val)) (hp : Bs w p.A p.n p.l)
    (hpa : ∀ ad, p.A = some ad → 0 < p.n → (Value.slice A0 n c0).ownBlock ≠ some ad.block)
    (hbytes : n ≤ 1000000000) (hbase : base ≤ w.heap.size)
    (h : ∀ A' c' w', Pr w' base A' (n + 1) c' (ps ++ [p]) → Below base w w' → w.grownBy w' (Value.slice A0 n c0).ownBlock → wpList Tryz.prog ops Q rest (a.put o.dst (.slice A' (n + 1) c')) w') : wpList Tryz.prog ops Q (o :: rest) a w := by
  refine wpList_app w iParts hgd ho hs hown.own hx hr (val_one _) (by unfold maxLen; omega) (by omega) hbase fun A' c' w' h2 h3 h4 => h A' c' w' ⟨?_, ?_, ?_⟩ ((Below.refl _ _).grown h3 hbase (fun k hk => (World.ownsRow.lt hown.own k hk).1)) h3
  · rw [List.map_append]; exact h2
  · intro q hq
    simp only [List.mem_append, List.mem_singleton] at hq
    rcases hq with hq | rfl
    · exact (hown.bs q hq).only h3 (fun ad e hn e2 => hown.apart q hq ad e hn e2.symm)
    · exact hp.only h3 (fun ad e hn e2 => hpa ad e hn e2.symm)
  · intro q hq ad e hn
    have hb : Bs w q.A q.n q.l ∧ (Value.slice A0 n c0).ownBlock ≠ some ad.block := by
      simp only [List.mem_append, List.mem_singleton] at hq
      rcases hq with hq | rfl
      · exact ⟨hown.bs q hq, hown.apart q hq ad e hn⟩
      · exact ⟨hp, hpa ad e hn⟩
    have hlt := bs_place hb.1 e hn
    rcases h4 with h4 | h4
    · rw [h4]; exact hb.2
    · rw [h4]
      intro e2
      injection e2 with e2
      omega

/-- what comes of Scan -/
def RetScan (w : World) (r : List (List UInt8) × Nat × Int) (e : Ending) (w' : World) : Prop := ∃ A n c ps, e = .returned (.tuple #[.slice A n c, .int .i64 (r.2.1 : Int), .int .i64 r.2.2]) ∧ Pr w' w.heap.size A n c ps ∧ ps.map Part.l = r.1 ∧ Below w.heap.size w w'
theorem scan_round {l : List UInt8} {at_ : Nat} {acc : List (List UInt8)} {tot : List (List UInt8) × Nat × Int} (h : tot = (acc ++ (scanL (l.drop at_)).1, at_ + (scanL (l.drop at_)).2.1, (scanL (l.drop at_)).2.2)) (hl : at_ < l.length) (hw : (nextL (l.drop at_)).2.2 = 1) :
    tot = ((acc ++ [(nextL (l.drop at_)).1]) ++ (scanL (l.drop (at_ + (nextL (l.drop at_)).2.1))).1, (at_ + (nextL (l.drop at_)).2.1) + (scanL (l.drop (at_ + (nextL (l.drop at_)).2.1))).2.1, (scanL (l.drop (at_ + (nextL (l.drop at_)).2.1))).2.2) := by
  rw [h, scanL_step (l.drop at_) (by intro e; have := congrArg List.length e; simp at this; omega), if_pos hw, List.drop_drop]
  simp [Nat.add_assoc]
theorem scan_stop {l : List UInt8} {at_ : Nat} {acc : List (List UInt8)} {tot : List (List UInt8) × Nat × Int} (h : tot = (acc ++ (scanL (l.drop at_)).1, at_ + (scanL (l.drop at_)).2.1, (scanL (l.drop at_)).2.2)) (hl : at_ < l.length) (hw : (nextL (l.drop at_)).2.2 ≠ 1) :
    tot = (acc, at_, (nextL (l.drop at_)).2.2) := by
  rw [h, scanL_step (l.drop at_) (by intro e; have := congrArg List.length e; simp at this; omega), if_neg hw]
  simp
theorem scan_end {l : List UInt8} {at_ : Nat} {acc : List (List UInt8)} {tot : List (List UInt8) × Nat × Int} (h : tot = (acc ++ (scanL (l.drop at_)).1, at_ + (scanL (l.drop at_)).2.1, (scanL (l.drop at_)).2.2)) (hl : ¬ at_ < l.length) :
    tot = (acc, at_, 1) := by
  rw [h, List.drop_of_length_le (by omega), scanL_nil]
  simp

/-- two lists of bytes that are the same -/
theorem same17_any (A A2 : Option Addr) (n c n2 c2 : Nat) (ps qs : List Part) (w : World) (hn : n ≤ 1000000) (hP : Reads w w.heap.size 1 A n (ps.map Part.val)) (hQ : Reads w w.heap.size 1 A2 n2 (qs.map Part.val)) (h1 : ∀ p ∈ ps, Bs w p.A p.n p.l) (h2 : ∀ p ∈ qs, Bs w p.A p.n p.l) (he : ps.map Part.l = qs.map Part.l) :
    Calls Tryz.prog 14 #[.slice A n c, .slice A2 n2 c2] w (RetTrue w) := by
  have l1 : ps.length = n := by have := hP.1; simpa using this
  have l2 : qs.length = n2 := by have := hQ.1; simpa using this
  have hnn : n = n2 := by have := congrArg List.length he; simp at this; omega
  subst hnn
  have HE := Lib.hid he
  have H1 := Lib.hid h1
  have H2 := Lib.hid h2
  have HL1 := Lib.hid l1
  have HL2 := Lib.hid l2
  clear he h1 h2 l1 l2
  go_enter Tryz.func14, Tryz.ntmps14
  go_wp2_with fail
  go_loopw [5] (fun i wr => ∃ k : Nat, i = .int .i64 (k : Int) ∧ k ≤ n ∧ Below w.heap.size w wr) (fun i _ => n - (intOf i).toNat)
  case atStart => exact ⟨0, rfl, by omega, Below.refl _ _⟩
  case round =>
    obtain ⟨k, rfl, hk, hbw⟩ := hrel
    by_cases hlt : k < n
    · obtain ⟨p, b, off, rfl, hp, hb, hc⟩ := part_at (hP.below hbw) hlt
      obtain ⟨q, b2, off2, rfl, hq, hb2, hc2⟩ := part_at (hQ.below hbw) hlt
      have Bp := (H1.out p (List.mem_of_getElem? hp.out)).below hbw
      have Bq := (H2.out q (List.mem_of_getElem? hq.out)).below hbw
      have hpq : p.l = q.l := by
        have h1 : (ps.map Part.l)[k]? = some p.l := by rw [List.getElem?_map, hp.out]; rfl
        have h2 : (qs.map Part.l)[k]? = some q.l := by rw [List.getElem?_map, hq.out]; rfl
        rw [HE.out, h2] at h1
        injection h1 with h1
        exact h1.symm
      rw [← hpq] at Bq
      have hcW := fun W (h : Below wr.heap.size wr W) => (h.cell (p := ⟨b, off + k, none⟩) (by have := hbw.size; simp; omega)).trans hc
      have hcW2 := fun W (h : Below wr.heap.size wr W) => (h.cell (p := ⟨b2, off2 + k, none⟩) (by have := hbw.size; simp; omega)).trans hc2
      clear hpq hc hc2 hp hq
      obtain ⟨pA, pn, pc, pl⟩ := p
      obtain ⟨qA, qn, qc, ql⟩ := q
      simp only at Bp Bq hcW hcW2
      have ks1 := fun W (hb : Below wr.heap.size wr W) => (Bp.below hb).str (P := Tryz.prog) 22 9 5 pc Tryz.underlying22 Tryz.underlying5 Tryz.underlying9
      have ks2 := fun W (hb : Below wr.heap.size wr W) => (Bq.below hb).str (P := Tryz.prog) 22 9 5 qc Tryz.underlying22 Tryz.underlying5 Tryz.underlying9
      go_wp2_with fail
      refine wp_region_seq (by kernel_rfl) [(0, true), (1, true), (2, true), (3, true), (4, true), (5, true), (6, true), (7, true), (8, true), (9, true), (10, true)] (by kernel_rfl) rfl (by kernel_rfl) ?_
      intro w2 hb2
      have tr2 : ∀ W, Below w2.heap.size w2 W → Below wr.heap.size wr W := fun W h => bel_step hb2 h
      iterate 11 (refine wpSeq_take (o := ⟨_, _, _, _, _, _⟩) (v := ?_) rfl rfl ?_ ?_; rotate_left; (focus (intro W hW; go_simp; first | done | with_reducible rfl)); simp only [Act.put, List.setIfInBounds_toArray, List.set_cons_zero, List.set_cons_succ])
      refine wpSeq_nil ?_
      go_wp2_with fail
      go_roundw
      case rel => exact ⟨k + 1, by go_num, by omega, bel_step hbw hb2⟩
      case measure => simp [intOf]; omega
    · go_wp2_with fail
      go_ret
      exact ⟨rfl, hbw⟩
end Go.Proofs.YtfepinnfhcjopaaGreatDoor
end
