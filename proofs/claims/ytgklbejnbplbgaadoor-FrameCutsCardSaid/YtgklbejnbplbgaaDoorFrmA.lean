/-
  frame.Size, frame.Put, frame.torn, frame.Next.
-/
import Derived.Test.YtgklbejnbplbgaaDoorFrmP
import Derived.Test.YtgklbejnbplbgaaDoorNumI
import Derived.Test.YtgklbejnbplbgaaDoorNumG
import Derived.Test.YtgklbejnbplbgaaDoorCrcL
import Derived.Test.YtgklbejnbplbgaaDoorKit
import Derived.IntWalk
namespace Go.Proofs.YtgklbejnbplbgaaDoor
open Go.RowKit Go.Nst
set_option maxRecDepth 100000
set_option linter.unusedVariables false
set_option linter.unusedSimpArgs false

def sizeN (n : Int) : Int := if n < 1 ∨ 8192 < n then 0 else ((putL (zig n)).length : Int) + n + 4
set_option maxHeartbeats 1000000 in
theorem size17_any (n : Int) (w : World) : Calls Tryd.prog 23 #[.int .i64 n] w fun e w' => e = .returned (.int .i64 (sizeN n)) ∧ Below w.heap.size w w' := by
  by_cases h1 : n < 1
  · have HE : Hid (sizeN n = 0) := by unfold sizeN; rw [if_pos (.inl h1)]; exact Lib.hid rfl
    go_enter Tryd.func23, Tryd.ntmps23
    go_wp2_with fail
    go_ret
    exact ⟨by rw [HE.out]; rfl, Below.refl _ _⟩
  have d1 : decide (n < 1) = false := by simp; omega
  by_cases h2 : 8192 < n
  · have HE : Hid (sizeN n = 0) := by unfold sizeN; rw [if_pos (.inr h2)]; exact Lib.hid rfl
    go_enter Tryd.func23, Tryd.ntmps23
    go_wp2_with fail
    go_ret
    exact ⟨by rw [HE.out]; rfl, Below.refl _ _⟩
  have d2 : decide (8192 < n) = false := by simp; omega
  have HE : Hid (sizeN n = ((putL (zig n)).length : Int) + n + 4) := by unfold sizeN; rw [if_neg (by omega)]; exact Lib.hid rfl
  have HP := Lib.hid (put_yes n w (by rw [mayB_iff]; omega))
  have hpl := (putL_len (zig n)).2
  generalize putL (zig n) = p at *
  go_enter Tryd.func23, Tryd.ntmps23
  go_wp2_with fail
  refine HP.out.mono ?_
  rintro e w1 ⟨A1, n1, c1, rfl, ho1, B1⟩
  have hn1 := ho1.len
  go_wp2_with fail
  go_ret
  refine ⟨?_, B1⟩
  rw [HE.out, hn1]
  rfl

/-- what comes of Put -/
def putE (b : List UInt8) : List UInt8 × Int := if b.length = 0 then ([], 1) else if 8192 < b.length then ([], 3) else (frameL b, 0)
set_option maxHeartbeats 1000000 in
theorem put17_any (A : Option Addr) (n c : Nat) (l : List UInt8) (w : World) (hn : n ≤ 140737488350000) (hB : Bs w A n l) (ht : Tab w) :
    Calls Tryd.prog 22 #[.slice A n c] w (RetBE w (putE l).1 (putE l).2) := by
  have hl := hB.len
  by_cases h1 : n = 0
  · have HE : Hid (putE l = ([], 1)) := by unfold putE; rw [if_pos (by omega)]; exact Lib.hid rfl
    subst h1
    go_enter Tryd.func22, Tryd.ntmps22
    go_wp2_with fail
    go_ret2
    rw [HE.out]
    exact ⟨none, 0, 0, rfl, Ow.nil, Below.refl _ _⟩
  have d1 : ((n : Int) == 0) = false := by simp; omega
  by_cases h2 : 8192 < n
  · have HE : Hid (putE l = ([], 3)) := by unfold putE; rw [if_neg (by omega), if_pos (by omega)]; exact Lib.hid rfl
    have d2 : decide (8192 < (n : Int)) = true := by simp; omega
    go_enter Tryd.func22, Tryd.ntmps22
    go_wp2_with fail
    go_ret2
    rw [HE.out]
    exact ⟨none, 0, 0, rfl, Ow.nil, Below.refl _ _⟩
  have HE : Hid (putE l = (putL (zig n) ++ sealL l, 0)) := by unfold putE frameL; rw [if_neg (by omega), if_neg (by omega), hl]; exact Lib.hid rfl
  have d2 : decide (8192 < (n : Int)) = false := by simp; omega
  have HP := Lib.hid (put_yes n w (by rw [mayB_iff]; omega))
  have hpl := (putL_len (zig n)).2
  have HS := Lib.hid (fun W (hb : Below w.heap.size w W) => seal_any A n c l W (by omega) (hB.below hb) (ht.below hb))
  have hsl := seal_len l
  generalize putL (zig n) = p at *
  generalize sealL l = q at *
  go_enter Tryd.func22, Tryd.ntmps22
  go_wp2_with fail
  refine HP.out.mono ?_
  rintro e w1 ⟨A1, n1, c1, rfl, ho1, B1⟩
  have hn1 := ho1.len
  go_wp2_with fail
  refine (HS.out _ B1).mono ?_
  rintro e w2 ⟨A2, n2, c2, rfl, ho2, hb2⟩
  have hn2 := ho2.len
  have HR := Lib.hid (two_parts w2 22 ⟨A1, n1, c1, p⟩ ⟨A2, n2, c2, q⟩)
  have q1 := ho1.bs.below hb2
  have B2 := bel_step B1 hb2
  clear hb2
  go_wp2_with fail
  refine (concat_any _ 2 _ [⟨A1, n1, c1, p⟩, ⟨A2, n2, c2, q⟩] _ (by omega) ?_ ?_ ?_).mono ?_
  · simpa using HR.out
  · intro x hx
    simp only [List.mem_cons, List.not_mem_nil, or_false] at hx
    rcases hx with rfl | rfl
    · exact q1.alloc _
    · exact ho2.bs.alloc _
  · simp [partSum]; omega
  · intro e w3 hr
    have hr2 := RetB.base hr (bel_alloc B2 _)
    obtain ⟨A3, n3, c3, rfl, ho3, hb3⟩ := hr2
    go_wp2_with fail
    go_ret2
    rw [HE.out]
    refine ⟨A3, n3, c3, rfl, ?_, hb3⟩
    simpa [partBytes] using ho3

theorem sub128 (u : UInt8) (h : 128 ≤ u.toNat) : ∃ x : Nat, x < 128 ∧ u.toNat = x + 128 := ⟨u.toNat - 128, by have := u.toNat_lt; omega, by omega⟩
theorem i64_or_nat (a b : Nat) (ha : a < 2 ^ 63) (hb : b < 2 ^ 63) : bits .or .i64 (a : Int) (b : Int) = ((a ||| b : Nat) : Int) := by
  show IntKind.i64.wrap ((BitVec.ofInt 64 (a : Int) ||| BitVec.ofInt 64 (b : Int)).toNat : Int) = _
  rw [BitVec.toNat_or, ofInt_nat64 a (by omega), ofInt_nat64 b (by omega)]
  have := Nat.or_lt_two_pow ha hb
  exact IntWalk.i64_in _ (by omega)
theorem i64_and1 (a : Nat) (ha : a < 2 ^ 63) : bits .and .i64 (a : Int) 1 = ((a % 2 : Nat) : Int) := by
  show IntKind.i64.wrap ((BitVec.ofInt 64 (a : Int) &&& BitVec.ofInt 64 ((1 : Nat) : Int)).toNat : Int) = _
  rw [BitVec.toNat_and, ofInt_nat64 a (by omega), ofInt_nat64 1 (by omega), nat_mask1]
  exact IntWalk.i64_in _ (by omega)
theorem pow_k {k : Nat} (hk : k ≤ 2) : 128 ^ k ≤ 16384 := Nat.le_trans (Nat.pow_le_pow_right (by omega) hk) (by decide)
theorem shl7i (c k : Nat) (hc : c < 128) (hk : k ≤ 2) : (c : Int) * 2 ^ (7 * k) = ((c * 128 ^ k : Nat) : Int) ∧ c * 128 ^ k < 2097152 := by
  refine ⟨by rw [← pow7]; simp, ?_⟩
  have := Nat.mul_le_mul (show c ≤ 127 by omega) (pow_k hk)
  omega
theorem or7i (y c k : Nat) (hy : y < 128 ^ k) (hc : c < 128) (hk : k ≤ 2) : bits .or .i64 (y : Int) ((c * 128 ^ k : Nat) : Int) = ((y + c * 128 ^ k : Nat) : Int) := by
  have h1 := pow_k hk
  have h2 := (shl7i c k hc hk).2
  rw [i64_or_nat y (c * 128 ^ k) (by omega) (by omega), Nat.or_comm, nat_join (7 * k) (c * 128 ^ k) y (by rw [pow7]; simp) (by rw [pow7]; exact hy), Nat.add_comm]
/-- the number that bytes of 128 and more make -/
def highN : List UInt8 → Nat
  | [] => 0
  | c :: t => (c.toNat - 128) + 128 * highN t
theorem highN_snoc (a : List UInt8) (u : UInt8) : highN (a ++ [u]) = highN a + (u.toNat - 128) * 128 ^ a.length := by
  induction a with
  | nil => simp [highN]
  | cons c t ih =>
    simp only [List.cons_append, highN, List.length_cons, ih, Nat.mul_add]
    rw [Nat.pow_succ, Nat.mul_comm (128 ^ t.length) 128, ← Nat.mul_assoc, ← Nat.mul_assoc, Nat.mul_comm 128 (u.toNat - 128)]
    omega
theorem high_round {l : List UInt8} {k y x : Nat} {u : UInt8} (hu : l[k]? = some u) (hx : u.toNat = x + 128) (hlt : x < 128) (hy : y = highN (l.take k) ∧ y < 128 ^ k ∧ ∀ c ∈ l.take k, 128 ≤ c.toNat) :
    y + x * 128 ^ k = highN (l.take (k + 1)) ∧ y + x * 128 ^ k < 128 ^ (k + 1) ∧ ∀ c ∈ l.take (k + 1), 128 ≤ c.toNat := by
  have hk : k < l.length := (List.getElem?_eq_some_iff.1 hu).1
  rw [take_snoc hu]
  refine ⟨?_, ?_, ?_⟩
  · rw [highN_snoc, ← hy.1, List.length_take, Nat.min_eq_left (by omega), hx]
    simp
  · rw [Nat.pow_succ]
    have := Nat.mul_le_mul_right (128 ^ k) (show x ≤ 127 by omega)
    omega
  · intro c hc
    simp only [List.mem_append, List.mem_singleton] at hc
    rcases hc with hc | rfl
    · exact hy.2.2 c hc
    · omega
theorem torn_low {l : List UInt8} {u : UInt8} (h : l.length < 3) (hu : u ∈ l) (hl : u.toNat < 128) : tornB l = false := by
  match l, h with
  | [], _ => simp at hu
  | [c], _ =>
    simp at hu
    subst hu
    simp [tornB]
    omega
  | [c, d], _ =>
    simp at hu
    simp [tornB]
    rcases hu with rfl | rfl <;> omega
theorem torn_high {l : List UInt8} (h : l.length < 3) (ha : ∀ c ∈ l, 128 ≤ c.toNat) : tornB l = (decide (highN l % 2 = 0) && (decide (l.length = 0) || decide (highN l + 128 ^ l.length ≤ 16384))) := by
  match l, h with
  | [], _ => decide
  | [c], _ =>
    have := ha c (by simp)
    have hc := c.toNat_lt
    have e1 : highN [c] = c.toNat - 128 := by simp [highN]
    rw [e1]
    show (decide (128 ≤ c.toNat) && decide (c.toNat % 2 = 0)) = (decide ((c.toNat - 128) % 2 = 0) && (false || decide (c.toNat - 128 + 128 ≤ 16384)))
    rw [decide_eq_true this, decide_eq_true (show c.toNat - 128 + 128 ≤ 16384 by omega)]
    by_cases q : c.toNat % 2 = 0
    · rw [decide_eq_true q, decide_eq_true (show (c.toNat - 128) % 2 = 0 by omega)]; rfl
    · rw [decide_eq_false q, decide_eq_false (show ¬ (c.toNat - 128) % 2 = 0 by omega)]; rfl
  | [c, d], _ =>
    have h1 := ha c (by simp)
    have h2 := ha d (by simp)
    have hc := c.toNat_lt
    have hd := d.toNat_lt
    have e1 : highN [c, d] = (c.toNat - 128) + 128 * (d.toNat - 128) := by simp [highN]
    rw [e1]
    show (decide (c.toNat = 128) && decide (d.toNat = 128)) = (decide (((c.toNat - 128) + 128 * (d.toNat - 128)) % 2 = 0) && (false || decide ((c.toNat - 128) + 128 * (d.toNat - 128) + 16384 ≤ 16384)))
    by_cases q : (c.toNat - 128) + 128 * (d.toNat - 128) = 0
    · rw [q, decide_eq_true (show c.toNat = 128 by omega), decide_eq_true (show d.toNat = 128 by omega)]; rfl
    · rw [decide_eq_false (show ¬ (c.toNat - 128) + 128 * (d.toNat - 128) + 16384 ≤ 16384 by omega)]
      by_cases q1 : c.toNat = 128
      · rw [decide_eq_false (show ¬ d.toNat = 128 by omega)]; simp
      · rw [decide_eq_false q1]; simp
set_option maxHeartbeats 2000000 in
theorem torn_any (A : Option Addr) (n c : Nat) (l : List UInt8) (w : World) (hn : n ≤ 9223372036854775807) (hB : Bs w A n l) :
    Calls Tryd.prog 38 #[.slice A n c] w fun e w' => e = .returned (.bool (tornB l)) ∧ w = w' := by
  have hl := hB.len
  by_cases h3 : 3 ≤ n
  · have HE : Hid (tornB l = false) := by
      match l, hl with
      | a :: b :: c :: t, _ => exact Lib.hid rfl
      | [], hl => simp at hl; omega
      | [a], hl => simp at hl; omega
      | [a, b], hl => simp at hl; omega
    go_enter Tryd.func38, Tryd.ntmps38
    go_wp2_with fail
    go_ret
    exact ⟨by rw [HE.out]; rfl, rfl⟩
  have d3 : decide ((3 : Int) ≤ (n : Int)) = false := by simp; omega
  have HL := Lib.hid hl
  clear hl
  go_enter Tryd.func38, Tryd.ntmps38
  go_wp2_with fail
  go_loop [3, 12] (fun x i => ∃ k y : Nat, k ≤ n ∧ i = .int .i64 k ∧ x = .int .i64 (y : Int) ∧ y < 16384 ∧ Hid (y = highN (l.take k) ∧ y < 128 ^ k ∧ ∀ c ∈ l.take k, 128 ≤ c.toNat)) (fun _ i => n - (intOf i).toNat)
  case atStart => exact ⟨0, 0, Nat.zero_le _, rfl, rfl, by omega, Lib.hid ⟨rfl, by simp, by simp⟩⟩
  case round =>
    obtain ⟨k, y, hk, rfl, rfl, hy, HY⟩ := hrel
    by_cases hlt : k < n
    · obtain ⟨u, b, off, rfl, hu, hb, hc, h256⟩ := hB.at hlt
      by_cases h7 : u.toNat < 128
      · have HE : Hid (tornB l = false) := Lib.hid (torn_low (by rw [HL.out]; omega) (List.mem_of_getElem? hu.out) h7)
        have d7 : decide ((u.toNat : Int) < 128) = true := by simp; omega
        go_wp2_with fail
        go_ret
        exact ⟨by rw [HE.out]; rfl, rfl⟩
      · obtain ⟨x, hx1, hx2⟩ := sub128 u (by omega)
        have HN := Lib.hid (high_round hu.out hx2 hx1 HY.out)
        have e1 := shl7i x k hx1 (by omega)
        have e2 := or7i y x k HY.out.2.1 hx1 (by omega)
        have e3 : IntKind.i64.wrap ((x : Int) * 2 ^ (7 * k)) = ((x * 128 ^ k : Nat) : Int) := by rw [e1.1]; exact IntWalk.i64_in _ (by omega)
        have e4 : wrap64 ((x : Int) * 2 ^ (7 * k)) = ((x * 128 ^ k : Nat) : Int) := by rw [e1.1]; exact IntWalk.wrap64_in _ (by omega)
        have hz : y + x * 128 ^ k < 16384 := Nat.lt_of_lt_of_le HN.out.2.1 (pow_k (by omega))
        rw [hx2] at hc
        have hc : w.cell? ⟨b, off + k, none⟩ = some (.int .u8 ((x : Int) + 128)) := hc
        have d7 : decide ((x : Int) + 128 < 128) = false := by simp; omega
        have s7 : (x : Int) + 128 - 128 = (x : Int) := by omega
        clear HY e1 h7 hx2
        generalize x * 128 ^ k = p at *
        generalize y + p = z at *
        go_wp2_with fail
        go_round
        case rel => exact ⟨k + 1, z, by omega, by go_num, rfl, hz, HN⟩
        case measure => simp [intOf]; omega
    · obtain rfl : k = n := by omega
      have HH : Hid (y = highN l ∧ y < 128 ^ k ∧ ∀ c ∈ l, 128 ≤ c.toNat) := by
        have := HY.out
        rw [List.take_of_length_le (by rw [HL.out]; exact Nat.le_refl _)] at this
        exact Lib.hid this
      have HE := Lib.hid (torn_high (by rw [HL.out]; omega) HH.out.2.2)
      rw [← HH.out.1, HL.out] at HE
      have e1 := shl7i 1 k (by omega) (by omega)
      have e2 := or7i y 1 k HH.out.2.1 (by omega) (by omega)
      rw [Nat.one_mul] at e1 e2
      have e0 : (2 : Int) ^ (7 * k) = ((128 ^ k : Nat) : Int) := by rw [← e1.1]; simp
      have e1 := e1.2
      generalize 128 ^ k = p at *
      have e3 : IntKind.i64.wrap (2 ^ (7 * k)) = (p : Int) := by rw [e0]; exact IntWalk.i64_in _ (by omega)
      have e4 : wrap64 (2 ^ (7 * k)) = (p : Int) := by rw [e0]; exact IntWalk.wrap64_in _ (by omega)
      have e6 : bits .or .i64 (y : Int) (2 ^ (7 * k)) = (y : Int) + (p : Int) := by rw [e0, e2]; simp
      have e2 : bits .or .i64 (y : Int) (p : Int) = (y : Int) + (p : Int) := by rw [e2]; simp
      have e5 := i64_and1 y (by omega)
      clear HY HH e0
      by_cases c1 : y % 2 = 0
      · have c1' : ((y % 2 : Nat) : Int) = 0 := by omega
        rw [c1'] at e5
        by_cases c2 : k = 0
        · have HE : Hid (tornB l = true) := by rw [HE.out]; exact Lib.hid (by simp [c1, c2])
          have d2 : ((k : Int) == 0) = true := by simp; omega
          go_wp2_with fail
          go_ret
          exact ⟨by rw [HE.out]; rfl, rfl⟩
        · have d2 : ((k : Int) == 0) = false := by simp; omega
          by_cases c3 : y + p ≤ 16384
          · have HE : Hid (tornB l = true) := by rw [HE.out]; exact Lib.hid (by simp [c1, c3])
            have d4 : decide ((y : Int) + (p : Int) ≤ 16384) = true := by simp; omega
            go_wp2_with fail
            go_ret
            exact ⟨by rw [HE.out]; rfl, rfl⟩
          · have HE : Hid (tornB l = false) := by rw [HE.out]; exact Lib.hid (by simp [c1, c2, c3])
            have d4 : decide ((y : Int) + (p : Int) ≤ 16384) = false := by simp; omega
            go_wp2_with fail
            go_ret
            exact ⟨by rw [HE.out]; rfl, rfl⟩
      · have c1' : ((y % 2 : Nat) : Int) = 1 := by omega
        rw [c1'] at e5
        have HE : Hid (tornB l = false) := by rw [HE.out]; exact Lib.hid (by simp [c1])
        go_wp2_with fail
        go_ret
        exact ⟨by rw [HE.out]; rfl, rfl⟩

/-- what comes of Next: fresh bytes -/
def RetX (w : World) (r : List UInt8 × Nat × Int) (e : Ending) (w' : World) : Prop := ∃ A n c, e = .returned (.tuple #[.slice A n c, .int .i64 (r.2.1 : Int), .int .i64 r.2.2]) ∧ Ow w' w.heap.size A n c r.1 ∧ Below w.heap.size w w'
theorem RetX.none_ (w : World) {r : List UInt8 × Nat × Int} {s : Int} (h : r = ([], 0, s)) : RetX w r (.returned (.tuple #[.slice none 0 0, .int .i64 0, .int .i64 s])) w := by
  subst h
  exact ⟨none, 0, 0, rfl, Ow.nil, Below.refl _ _⟩
set_option maxHeartbeats 2000000 in
theorem next17_any (A : Option Addr) (n c : Nat) (l : List UInt8) (w : World) (hn : n ≤ 140737488350000) (hnc : n ≤ c) (hc63 : c ≤ 9223372036854775807) (hB : Bs w A n l) (ht : Tab w) :
    Calls Tryd.prog 24 #[.slice A n c] w (RetX w (nextL l)) := by
  have hl := hB.len
  have HG := Lib.hid (get_any A n c l w (by omega) hnc hB)
  cases hg : getL l with
  | none =>
    have HT := Lib.hid (torn_any A n c l w (by omega) hB)
    have HE := Lib.hid (next_none hg)
    rw [hg] at HG
    clear hg
    cases htb : tornB l with
    | true =>
      rw [htb] at HT HE
      clear htb
      go_enter Tryd.func24, Tryd.ntmps24
      go_wp2_with fail
      refine HG.out.mono ?_
      rintro e w1 ⟨rfl, rfl⟩
      simp only [gotV]
      go_wp2_with fail
      refine HT.out.mono ?_
      rintro e w1 ⟨rfl, rfl⟩
      go_wp2_with fail
      go_ret3
      exact RetX.none_ w HE.out
    | false =>
      rw [htb] at HT HE
      clear htb
      go_enter Tryd.func24, Tryd.ntmps24
      go_wp2_with fail
      refine HG.out.mono ?_
      rintro e w1 ⟨rfl, rfl⟩
      simp only [gotV]
      go_wp2_with fail
      refine HT.out.mono ?_
      rintro e w1 ⟨rfl, rfl⟩
      go_wp2_with fail
      go_ret3
      exact RetX.none_ w HE.out
  | some r =>
    obtain ⟨m, k⟩ := r
    obtain ⟨_, _, hkl, hk0, hk8⟩ := put_get hg
    rw [hg] at HG
    by_cases h1 : m < 1 ∨ 8192 < m
    · have HE := Lib.hid (next_num hg h1)
      clear hg
      by_cases h2 : m < 1
      · have d1 : decide (m < 1) = true := by simp; omega
        go_enter Tryd.func24, Tryd.ntmps24
        go_wp2_with fail
        refine HG.out.mono ?_
        rintro e w1 ⟨rfl, rfl⟩
        simp only [gotV]
        go_wp2_with fail
        go_ret3
        exact RetX.none_ w HE.out
      · have d1 : decide (m < 1) = false := by simp; omega
        have d2 : decide (8192 < m) = true := by simp; omega
        go_enter Tryd.func24, Tryd.ntmps24
        go_wp2_with fail
        refine HG.out.mono ?_
        rintro e w1 ⟨rfl, rfl⟩
        simp only [gotV]
        go_wp2_with fail
        go_ret3
        exact RetX.none_ w HE.out
    have d1 : decide (m < 1) = false := by simp; omega
    have d2 : decide (8192 < m) = false := by simp; omega
    by_cases h2 : (l.length : Int) < k + m + 4
    · have HE := Lib.hid (next_short hg h1 h2)
      clear hg
      have d3 : decide ((n : Int) - (k : Int) < m + 4) = true := by simp; omega
      go_enter Tryd.func24, Tryd.ntmps24
      go_wp2_with fail
      refine HG.out.mono ?_
      rintro e w1 ⟨rfl, rfl⟩
      simp only [gotV]
      go_wp2_with fail
      go_ret3
      exact RetX.none_ w HE.out
    have HE := Lib.hid (next_long hg h1 h2)
    obtain ⟨j, rfl⟩ : ∃ j : Nat, m = (j : Int) := ⟨m.toNat, by omega⟩
    rw [Int.toNat_natCast] at HE
    clear hg
    have d3 : decide ((n : Int) - (k : Int) < (j : Int) + 4) = false := by simp; omega
    have hck : ¬ c = k := by omega
    have hcut := hB.cut (k := k) (cap := c) (by omega) hnc
    rw [if_neg hck] at hcut
    obtain ⟨u, b, off, rfl, _⟩ := hB.at (k := 0) (by omega)
    have hcut2 := hcut.upto (k := j + 4) (by omega)
    have hck2 : (((k : Int) + (j : Int) + 4) - (k : Int)).toNat = j + 4 := by omega
    have b1 : (k : Int) ≤ (k : Int) + (j : Int) + 4 := by omega
    have b2 : (k : Int) + (j : Int) + 4 ≤ (c : Int) := by omega
    simp only [Option.map_some, add_lit] at hcut2
    have HO := Lib.hid (open_any (some ⟨b, off + k, none⟩) (k + j + 4 - k) (c - k) ((l.drop k).take (j + 4)) w (by omega) (by rw [show k + j + 4 - k = j + 4 by omega]; exact hcut2) ht (by omega))
    generalize openL ((l.drop k).take (j + 4)) = r at *
    obtain ⟨rl, rb⟩ := r
    go_enter Tryd.func24, Tryd.ntmps24
    go_wp2_with fail
    refine HG.out.mono ?_
    rintro e w1 ⟨rfl, rfl⟩
    simp only [gotV]
    go_wp2_with fail
    refine HO.out.mono ?_
    rintro e w1 ⟨A1, n1, c1, rfl, ho1, B1⟩
    cases rb with
    | true =>
      go_wp2_with fail
      go_ret3
      rw [HE.out]
      exact ⟨A1, n1, c1, by simp, ho1, B1⟩
    | false =>
      go_wp2_with fail
      go_ret3
      rw [HE.out]
      exact ⟨none, 0, 0, rfl, Ow.nil, B1⟩
end Go.Proofs.YtgklbejnbplbgaaDoor
