/-
  event.Name; the shapes of what older formats tell.
-/
import Derived.Test.YtedliepfaibefaaGreatDoorCdX
namespace Go.Proofs.YtedliepfaibefaaGreatDoor
open Go.RowKit Go.Nst
set_option maxRecDepth 100000
set_option linter.unusedVariables false
set_option linter.unusedSimpArgs false

def nameL : Nat → List UInt8
  | 0 => []
  | 1 => [102, 111, 108, 100, 101, 114]
  | 2 => [117, 110, 102, 111, 108, 100, 101, 114]
  | 3 => [102, 101, 101, 100]
  | 4 => [117, 110, 102, 101, 101, 100]
  | 5 => [116, 105, 116, 108, 101]
  | 6 => [109, 111, 118, 101]
  | 7 => [105, 116, 101, 109]
  | 8 => [114, 101, 97, 100]
  | 9 => [115, 116, 97, 114]
  | 10 => [116, 97, 103]
  | 11 => [115, 101, 97, 114, 99, 104]
  | 12 => [117, 110, 115, 101, 97, 114, 99, 104]
  | 13 => [99, 108, 111, 99, 107]
  | _ => []
def nameK (k : Int) : List UInt8 := if 1 ≤ k ∧ k ≤ 13 then nameL k.toNat else []
/-- the kinds' names stand where they were laid -/
def Nms (w : World) : Prop := ∀ k, k < 14 → w.cell? ⟨0, k, none⟩ = some (.string ⟨(nameL k).toArray⟩)
theorem Nms.below {w w' : World} (h : Nms w) (hb : Below w.heap.size w w') : Nms w' := fun k hk => by
  have h0 := h k hk
  exact (hb.cell (p := ⟨0, k, none⟩) (World.block_lt_of_cell? w _ h0)).trans h0
theorem name_any (k : Int) (w : World) (hN : Nms w) : Calls Tryz.prog 77 #[.int .i64 k] w fun e w' => e = .returned (.string ⟨(nameK k).toArray⟩) ∧ w = w' := by
  obtain ⟨r, hr⟩ : ∃ r, nameK k = r := ⟨_, rfl⟩
  rw [hr]
  unfold nameK at hr
  by_cases h1 : k < 1
  · have HR : Hid (r = []) := Lib.hid (by rw [← hr, if_neg (by omega)])
    have d1 : decide (k < 1) = true := by simpa using h1
    clear hr h1
    go_enter Tryz.func77, Tryz.ntmps77
    go_wp2_with fail
    go_ret
    exact ⟨by rw [HR.out]; rfl, rfl⟩
  · have d1 : decide (k < 1) = false := by simpa using h1
    by_cases h2 : 14 ≤ k
    · have HR : Hid (r = []) := Lib.hid (by rw [← hr, if_neg (by omega)])
      have d2 : decide (14 ≤ k) = true := by simpa using h2
      clear hr h1 h2
      go_enter Tryz.func77, Tryz.ntmps77
      go_wp2_with fail
      go_ret
      exact ⟨by rw [HR.out]; rfl, rfl⟩
    · have d2 : decide (14 ≤ k) = false := by simpa using h2
      obtain ⟨j, rfl⟩ := Int.eq_ofNat_of_zero_le (show 0 ≤ k by omega)
      have HR : Hid (r = nameL j) := Lib.hid (by rw [← hr, if_pos (by omega)]; rfl)
      have hc := hN j (by omega)
      have hj : (j : Int) < 14 := by omega
      have hj0 : (0 : Int) ≤ (j : Int) := by omega
      generalize nameL j = nm at *
      clear hr h1 h2 hN
      go_enter Tryz.func77, Tryz.ntmps77
      go_wp2_with fail
      go_ret
      exact ⟨by rw [HR.out]; rfl, rfl⟩
theorem nameK_empty (k : Int) : (nameK k = []) ↔ ¬ (1 ≤ k ∧ k ≤ 13) := by
  unfold nameK
  by_cases h : 1 ≤ k ∧ k ≤ 13
  · rw [if_pos h]
    have : k.toNat = 1 ∨ k.toNat = 2 ∨ k.toNat = 3 ∨ k.toNat = 4 ∨ k.toNat = 5 ∨ k.toNat = 6 ∨ k.toNat = 7 ∨ k.toNat = 8 ∨ k.toNat = 9 ∨ k.toNat = 10 ∨ k.toNat = 11 ∨ k.toNat = 12 ∨ k.toNat = 13 := by omega
    rcases this with e | e | e | e | e | e | e | e | e | e | e | e | e <;> rw [e] <;> simp [nameL, h]
  · rw [if_neg h]; simp [h]

/-! ### shapes -/
def n1 (k : Int) : Nat := if k = 1 then 1 else if k = 2 then 1 else if k = 3 then 3 else if k = 4 then 5 else if k = 5 then 5 else 0
def t1 (k : Int) : Nat := if k = 1 then 1 else if k = 2 then 0 else if k = 3 then 3 else if k = 4 then 0 else if k = 5 then 1 else 0
def i1 (k : Int) : Bool := decide (1 ≤ k ∧ k ≤ 5)
def n2 (k : Int) : Nat := if k = 1 then 1 else usesN k
def t2 (k : Int) : Nat := if k = 7 then 3 else usesT k
def i2 (k : Int) : Bool := decide (1 ≤ k ∧ k ≤ 13)
def sN (v k : Int) : Nat := if v = 1 then n1 k else if v = 2 then n2 k else 0
def sT (v k : Int) : Nat := if v = 1 then t1 k else if v = 2 then t2 k else 0
def sI (v k : Int) : Bool := if v = 1 then i1 k else if v = 2 then i2 k else false
theorem n1_lt (k : Int) : n1 k < 8 := by unfold n1; repeat (first | decide | refine ite_lt8 (by decide) ?_)
theorem t1_lt (k : Int) : t1 k < 8 := by unfold t1; repeat (first | decide | refine ite_lt8 (by decide) ?_)
theorem sN_lt (v k : Int) : sN v k < 8 := by
  unfold sN n2
  exact ite_lt8 (n1_lt k) (ite_lt8 (ite_lt8 (by decide) (usesN_lt k)) (by decide))
theorem sT_lt (v k : Int) : sT v k < 8 := by
  unfold sT t2
  exact ite_lt8 (t1_lt k) (ite_lt8 (ite_lt8 (by decide) (usesT_lt k)) (by decide))
def shV (m q : Nat) (i : Bool) : Value := .agg #[.int .i64 (m : Int), .int .i64 (q : Int), .bool i]
theorem set3 {w : World} {g : Nat} {T : TypeId} {c0 c1 c2 : Value} (h : Blk w g T #[c0, c1, c2]) (v0 v1 v2 : Value) : Blk (((w.setCell ⟨g, 0, none⟩ v0).setCell ⟨g, 1, none⟩ v1).setCell ⟨g, 2, none⟩ v2) g T #[v0, v1, v2] := by
  have := ((h.set_ 0 v0).set_ 1 v1).set_ 2 v2
  simpa using this
theorem oldFirst_1 (w : World) : Calls Tryz.prog 57 #[.int .i64 1] w fun e w' => e = .returned (shV 1 1 true) ∧ Below w.heap.size w w' := by
  go_enter Tryz.func57, Tryz.ntmps57
  go_wp2_with fail
  exact bodyPost_ret (v := shV 1 1 true) (by simp [results, Tryz.results57, go_sem, shV]) rfl ⟨rfl, bel_alloc (Below.refl _ _) _⟩
theorem oldFirst_2 (w : World) : Calls Tryz.prog 57 #[.int .i64 2] w fun e w' => e = .returned (shV 1 0 true) ∧ Below w.heap.size w w' := by
  go_enter Tryz.func57, Tryz.ntmps57
  go_wp2_with fail
  exact bodyPost_ret (v := shV 1 0 true) (by simp [results, Tryz.results57, go_sem, shV]) rfl ⟨rfl, bel_alloc (Below.refl _ _) _⟩
theorem oldFirst_3 (w : World) : Calls Tryz.prog 57 #[.int .i64 3] w fun e w' => e = .returned (shV 3 3 true) ∧ Below w.heap.size w w' := by
  go_enter Tryz.func57, Tryz.ntmps57
  go_wp2_with fail
  exact bodyPost_ret (v := shV 3 3 true) (by simp [results, Tryz.results57, go_sem, shV]) rfl ⟨rfl, bel_alloc (Below.refl _ _) _⟩
theorem oldFirst_4 (w : World) : Calls Tryz.prog 57 #[.int .i64 4] w fun e w' => e = .returned (shV 5 0 true) ∧ Below w.heap.size w w' := by
  go_enter Tryz.func57, Tryz.ntmps57
  go_wp2_with fail
  exact bodyPost_ret (v := shV 5 0 true) (by simp [results, Tryz.results57, go_sem, shV]) rfl ⟨rfl, bel_alloc (Below.refl _ _) _⟩
theorem oldFirst_5 (w : World) : Calls Tryz.prog 57 #[.int .i64 5] w fun e w' => e = .returned (shV 5 1 true) ∧ Below w.heap.size w w' := by
  go_enter Tryz.func57, Tryz.ntmps57
  go_wp2_with fail
  exact bodyPost_ret (v := shV 5 1 true) (by simp [results, Tryz.results57, go_sem, shV]) rfl ⟨rfl, bel_alloc (Below.refl _ _) _⟩
theorem oldFirst_any (k : Int) (w : World) : Calls Tryz.prog 57 #[.int .i64 k] w fun e w' => e = .returned (shV (n1 k) (t1 k) (i1 k)) ∧ Below w.heap.size w w' := by
  by_cases k1 : k = 1
  · rw [k1]; exact oldFirst_1 w
  by_cases k2 : k = 2
  · rw [k2]; exact oldFirst_2 w
  by_cases k3 : k = 3
  · rw [k3]; exact oldFirst_3 w
  by_cases k4 : k = 4
  · rw [k4]; exact oldFirst_4 w
  by_cases k5 : k = 5
  · rw [k5]; exact oldFirst_5 w
  have e1 : (k == 1) = false := by simpa using k1
  have e2 : (k == 2) = false := by simpa using k2
  have e3 : (k == 3) = false := by simpa using k3
  have e4 : (k == 4) = false := by simpa using k4
  have e5 : (k == 5) = false := by simpa using k5
  have z1 : n1 k = 0 := by unfold n1; rw [if_neg k1]; rw [if_neg k2]; rw [if_neg k3]; rw [if_neg k4]; rw [if_neg k5]
  have z2 : t1 k = 0 := by unfold t1; rw [if_neg k1]; rw [if_neg k2]; rw [if_neg k3]; rw [if_neg k4]; rw [if_neg k5]
  have z3 : i1 k = false := by unfold i1; simp; omega
  rw [z1, z2, z3]
  clear z1 z2 z3 k1 k2 k3 k4 k5
  go_enter Tryz.func57, Tryz.ntmps57
  go_wp2_with fail
  exact bodyPost_ret (v := shV 0 0 false) (by simp [results, Tryz.results57, go_sem, shV]) rfl ⟨rfl, bel_alloc (Below.refl _ _) _⟩
theorem oldSecond_any (k : Int) (w : World) (hN : Nms w) : Calls Tryz.prog 58 #[.int .i64 k] w fun e w' => e = .returned (shV (n2 k) (t2 k) (i2 k)) ∧ Below w.heap.size w w' := by
  have HU := Lib.hid (fun W => uses_any k W)
  have HM := Lib.hid (fun W h => name_any k W h)
  have HN := Lib.hid (hN.below (bel_alloc (Below.refl w.heap.size w) (.cells #[.int .i64 0, .int .i64 0, .bool false] 54)))
  have HI : Hid (i2 k = !(nameK k).isEmpty) := Lib.hid (by
    unfold i2
    by_cases h : 1 ≤ k ∧ k ≤ 13
    · have : nameK k ≠ [] := fun e => (nameK_empty k).1 e h
      simp [h, this]
    · have : nameK k = [] := (nameK_empty k).2 h
      simp [h, this])
  have h2n : n2 k = if k = 1 then 1 else usesN k := rfl
  have h2t : t2 k = if k = 7 then 3 else usesT k := rfl
  clear hN
  generalize usesN k = m at *
  generalize usesT k = q at *
  generalize n2 k = rm at *
  generalize t2 k = rq at *
  generalize i2 k = ri at *
  cases hnm : nameK k with
  | nil =>
    rw [hnm] at HI HM
    clear hnm
    by_cases k1 : k = 1
    · subst k1
      have HM1 : Hid (rm = 1) := Lib.hid (by rw [h2n]; simp)
      have HQ1 : Hid (rq = q) := Lib.hid (by rw [h2t]; simp)
      clear h2n h2t
      go_enter Tryz.func58, Tryz.ntmps58
      go_wp2_with fail
      (with_reducible refine (HU.out _).mono ?_)
      rintro e w1 ⟨rfl, rfl⟩
      go_wp2_with fail
      (with_reducible refine (HM.out _ HN.out).mono ?_)
      rintro e w1 ⟨rfl, rfl⟩
      go_wp2_with fail
      exact bodyPost_ret (v := shV 1 q false) (by simp [results, Tryz.results58, go_sem, shV]) rfl ⟨by rw [HM1.out, HQ1.out, HI.out]; rfl, bel_alloc (Below.refl _ _) _⟩
    · by_cases k7 : k = 7
      · subst k7
        have HM1 : Hid (rm = m) := Lib.hid (by rw [h2n]; simp)
        have HQ1 : Hid (rq = 3) := Lib.hid (by rw [h2t]; simp)
        clear h2n h2t
        go_enter Tryz.func58, Tryz.ntmps58
        go_wp2_with fail
        (with_reducible refine (HU.out _).mono ?_)
        rintro e w1 ⟨rfl, rfl⟩
        go_wp2_with fail
        (with_reducible refine (HM.out _ HN.out).mono ?_)
        rintro e w1 ⟨rfl, rfl⟩
        go_wp2_with fail
        exact bodyPost_ret (v := shV m 3 false) (by simp [results, Tryz.results58, go_sem, shV]) rfl ⟨by rw [HM1.out, HQ1.out, HI.out]; rfl, bel_alloc (Below.refl _ _) _⟩
      · have e1 : (k == 1) = false := by simpa using k1
        have e7 : (k == 7) = false := by simpa using k7
        have HM1 : Hid (rm = m) := Lib.hid (by rw [h2n, if_neg k1])
        have HQ1 : Hid (rq = q) := Lib.hid (by rw [h2t, if_neg k7])
        clear h2n h2t k1 k7
        go_enter Tryz.func58, Tryz.ntmps58
        go_wp2_with fail
        (with_reducible refine (HU.out _).mono ?_)
        rintro e w1 ⟨rfl, rfl⟩
        go_wp2_with fail
        (with_reducible refine (HM.out _ HN.out).mono ?_)
        rintro e w1 ⟨rfl, rfl⟩
        go_wp2_with fail
        exact bodyPost_ret (v := shV m q false) (by simp [results, Tryz.results58, go_sem, shV]) rfl ⟨by rw [HM1.out, HQ1.out, HI.out]; rfl, bel_alloc (Below.refl _ _) _⟩
  | cons a l =>
    rw [hnm] at HI HM
    clear hnm
    by_cases k1 : k = 1
    · subst k1
      have HM1 : Hid (rm = 1) := Lib.hid (by rw [h2n]; simp)
      have HQ1 : Hid (rq = q) := Lib.hid (by rw [h2t]; simp)
      clear h2n h2t
      go_enter Tryz.func58, Tryz.ntmps58
      go_wp2_with fail
      (with_reducible refine (HU.out _).mono ?_)
      rintro e w1 ⟨rfl, rfl⟩
      go_wp2_with fail
      (with_reducible refine (HM.out _ HN.out).mono ?_)
      rintro e w1 ⟨rfl, rfl⟩
      have ne1 : ¬ (a :: l) = [] := by simp
      have ne2 : (a :: l).isEmpty = false := rfl
      go_wp2_with fail
      exact bodyPost_ret (v := shV 1 q true) (by simp [results, Tryz.results58, go_sem, shV]) rfl ⟨by rw [HM1.out, HQ1.out, HI.out]; rfl, bel_alloc (Below.refl _ _) _⟩
    · by_cases k7 : k = 7
      · subst k7
        have HM1 : Hid (rm = m) := Lib.hid (by rw [h2n]; simp)
        have HQ1 : Hid (rq = 3) := Lib.hid (by rw [h2t]; simp)
        clear h2n h2t
        go_enter Tryz.func58, Tryz.ntmps58
        go_wp2_with fail
        (with_reducible refine (HU.out _).mono ?_)
        rintro e w1 ⟨rfl, rfl⟩
        go_wp2_with fail
        (with_reducible refine (HM.out _ HN.out).mono ?_)
        rintro e w1 ⟨rfl, rfl⟩
        have ne1 : ¬ (a :: l) = [] := by simp
        have ne2 : (a :: l).isEmpty = false := rfl
        go_wp2_with fail
        exact bodyPost_ret (v := shV m 3 true) (by simp [results, Tryz.results58, go_sem, shV]) rfl ⟨by rw [HM1.out, HQ1.out, HI.out]; rfl, bel_alloc (Below.refl _ _) _⟩
      · have e1 : (k == 1) = false := by simpa using k1
        have e7 : (k == 7) = false := by simpa using k7
        have HM1 : Hid (rm = m) := Lib.hid (by rw [h2n, if_neg k1])
        have HQ1 : Hid (rq = q) := Lib.hid (by rw [h2t, if_neg k7])
        clear h2n h2t k1 k7
        go_enter Tryz.func58, Tryz.ntmps58
        go_wp2_with fail
        (with_reducible refine (HU.out _).mono ?_)
        rintro e w1 ⟨rfl, rfl⟩
        go_wp2_with fail
        (with_reducible refine (HM.out _ HN.out).mono ?_)
        rintro e w1 ⟨rfl, rfl⟩
        have ne1 : ¬ (a :: l) = [] := by simp
        have ne2 : (a :: l).isEmpty = false := rfl
        go_wp2_with fail
        exact bodyPost_ret (v := shV m q true) (by simp [results, Tryz.results58, go_sem, shV]) rfl ⟨by rw [HM1.out, HQ1.out, HI.out]; rfl, bel_alloc (Below.refl _ _) _⟩

def OC (v k a b n : Int) (s t : List UInt8) : Array Value := #[.int .i64 v, .int .i64 k, .int .i64 a, .int .i64 b, .int .i64 n, .string ⟨s.toArray⟩, .string ⟨t.toArray⟩]
set_option maxHeartbeats 1000000 in
theorem shaped_any (v k a b n : Int) (s t : List UInt8) (w : World) (hN : Nms w) : Calls Tryz.prog 26 #[.agg (OC v k a b n s t)] w fun e w' => e = .returned (shV (sN v k) (sT v k) (sI v k)) ∧ Below w.heap.size w w' := by
  have H1 := Lib.hid (fun W => oldFirst_any k W)
  have HN := Lib.hid ((hN.below (bel_alloc (Below.refl w.heap.size w) (.cells (OC v k a b n s t) 25))).below (bel_alloc (Below.refl _ _) (.cells #[.int .i64 0, .int .i64 0, .bool false] 54)))
  have H2 := Lib.hid (fun W h => oldSecond_any k W h)
  have B0 := bel_alloc (bel_alloc (Below.refl w.heap.size w) (.cells (OC v k a b n s t) 25)) (.cells #[.int .i64 0, .int .i64 0, .bool false] 54)
  have hb0 : Blk ((w.alloc (.cells (OC v k a b n s t) 25)).alloc (.cells #[.int .i64 0, .int .i64 0, .bool false] 54)) (w.heap.size + 1) 54 #[.int .i64 0, .int .i64 0, .bool false] := by
    have := Blk.new (w.alloc (.cells (OC v k a b n s t) 25)) 54 #[.int .i64 0, .int .i64 0, .bool false]
    simpa using this
  clear hN
  unfold OC at *
  unfold sN sT sI
  by_cases v1 : v = 1
  · subst v1
    simp only [if_true]
    generalize n1 k = m at *
    generalize t1 k = q at *
    generalize i1 k = i at *
    go_enter Tryz.func26, Tryz.ntmps26
    go_wp2_with fail
    (with_reducible refine (H1.out _).mono ?_)
    rintro e w1 ⟨rfl, hb1⟩
    have hr1 := hb0.below hb1 hb0.lt
    have r0 := hr1.cell 0
    have r1 := hr1.cell 1
    have r2 := hr1.cell 2
    have rf := hr1.frozen
    simp at r0 r1 r2
    have HR1 := Lib.hid hr1
    have B1 := bel_step B0 hb1
    simp only [shV]
    clear hr1 hb1 hb0 B0
    go_wp2_with fail
    have HZ := set3 HR1.out (.int .i64 (m : Int)) (.int .i64 (q : Int)) (.bool i)
    have z0 := HZ.cell 0
    have z1 := HZ.cell 1
    have z2 := HZ.cell 2
    simp at z0 z1 z2
    exact bodyPost_ret (v := shV m q i) (by simp [results, Tryz.results26, go_sem, shV, z0, z1, z2]) rfl ⟨rfl, ((B1.setCell (p := ⟨w.heap.size + 1, 0, none⟩) (by simp) _).setCell (p := ⟨w.heap.size + 1, 1, none⟩) (by simp) _).setCell (p := ⟨w.heap.size + 1, 2, none⟩) (by simp) _⟩
  · rw [if_neg v1, if_neg v1, if_neg v1]
    have e1 : (v == 1) = false := by simpa using v1
    by_cases v2 : v = 2
    · subst v2
      simp only [if_true]
      generalize n2 k = m at *
      generalize t2 k = q at *
      generalize i2 k = i at *
      go_enter Tryz.func26, Tryz.ntmps26
      go_wp2_with fail
      (with_reducible refine (H2.out _ HN.out).mono ?_)
      rintro e w1 ⟨rfl, hb1⟩
      have hr1 := hb0.below hb1 hb0.lt
      have r0 := hr1.cell 0
      have r1 := hr1.cell 1
      have r2 := hr1.cell 2
      have rf := hr1.frozen
      simp at r0 r1 r2
      have HR1 := Lib.hid hr1
      have B1 := bel_step B0 hb1
      simp only [shV]
      clear hr1 hb1 hb0 B0
      go_wp2_with fail
      have HZ := set3 HR1.out (.int .i64 (m : Int)) (.int .i64 (q : Int)) (.bool i)
      have z0 := HZ.cell 0
      have z1 := HZ.cell 1
      have z2 := HZ.cell 2
      simp at z0 z1 z2
      exact bodyPost_ret (v := shV m q i) (by simp [results, Tryz.results26, go_sem, shV, z0, z1, z2]) rfl ⟨rfl, ((B1.setCell (p := ⟨w.heap.size + 1, 0, none⟩) (by simp) _).setCell (p := ⟨w.heap.size + 1, 1, none⟩) (by simp) _).setCell (p := ⟨w.heap.size + 1, 2, none⟩) (by simp) _⟩
    · rw [if_neg v2, if_neg v2, if_neg v2]
      have e2 : (v == 2) = false := by simpa using v2
      have HB := Lib.hid B0
      clear v1 v2 hb0 B0
      go_enter Tryz.func26, Tryz.ntmps26
      go_wp2_with fail
      exact bodyPost_ret (v := shV 0 0 false) (by simp [results, Tryz.results26, go_sem, shV]) rfl ⟨rfl, bel_alloc (bel_alloc (Below.refl _ _) _) _⟩
theorem oldFields_any (g : Nat) (w : World) : Calls Tryz.prog 27 #[.pointer (some ⟨g, 0, none⟩)] w fun e w' => e = .returned (.tuple #[.agg #[.pointer (some ⟨g, 2, none⟩), .pointer (some ⟨g, 3, none⟩), .pointer (some ⟨g, 4, none⟩)], .agg #[.pointer (some ⟨g, 5, none⟩), .pointer (some ⟨g, 6, none⟩)]]) ∧ Below w.heap.size w w' := by
  go_enter Tryz.func27, Tryz.ntmps27
  go_wp2_with fail
  go_region
  go_wp2_with fail
  exact bodyPost_ret (v := .tuple #[.agg #[.pointer (some ⟨g, 2, none⟩), .pointer (some ⟨g, 3, none⟩), .pointer (some ⟨g, 4, none⟩)], .agg #[.pointer (some ⟨g, 5, none⟩), .pointer (some ⟨g, 6, none⟩)]]) (by simp [results, Tryz.results27, go_sem]) rfl ⟨rfl, (bel_alloc (bel_alloc (Below.refl _ _) _) _).drew⟩
end Go.Proofs.YtedliepfaibefaaGreatDoor
