/-
  event.Name; the shapes of what older formats tell.
  old.Check, the reference's Uses and Check.
  old.Check.
-/
import Derived.Test.YtfepinnfhcjopaaGreatDoorCdX
section
namespace Go.Proofs.YtfepinnfhcjopaaGreatDoor
open Go.RowKit Go.Nst
set_option maxRecDepth 100000
set_option linter.unusedVariables false
set_option linter.unusedSimpArgs false

def nameL : Nat → List UInt8
  | 0 => []
  | 1 => [102, 111, 108, 100, 101, 114]
  | 2 => [117, 110, 102, 111, 108, 100, 101, 114]
  | 3 => [102, 101, 101, 100]
  | 4 => [117, 110, 102, 101, 101, 100]
  | 5 => [116, 105, 116, 108, 101]
  | 6 => [109, 111, 118, 101]
  | 7 => [105, 116, 101, 109]
  | 8 => [114, 101, 97, 100]
  | 9 => [115, 116, 97, 114]
  | 10 => [116, 97, 103]
  | 11 => [115, 101, 97, 114, 99, 104]
  | 12 => [117, 110, 115, 101, 97, 114, 99, 104]
  | 13 => [99, 108, 111, 99, 107]
  | _ => []
def nameK (k : Int) : List UInt8 := if 1 ≤ k ∧ k ≤ 13 then nameL k.toNat else []
/-- the kinds' names stand where they were laid -/
def Nms (w : World) : Prop := ∀ k, k < 14 → w.cell? ⟨1, k, none⟩ = some (.string ⟨(nameL k).toArray⟩)
theorem Nms.below {w w' : World} (h : Nms w) (hb : Below w.heap.size w w') : Nms w' := fun k hk => by
  have h0 := h k hk
  exact (hb.cell (p := ⟨1, k, none⟩) (World.block_lt_of_cell? w _ h0)).trans h0
theorem name_any (k : Int) (w : World) (hN : Nms w) : Calls Tryz.prog 124 #[.int .i64 k] w fun e w' => e = .returned (.string ⟨(nameK k).toArray⟩) ∧ w = w' := by
  obtain ⟨r, hr⟩ : ∃ r, nameK k = r := ⟨_, rfl⟩
  rw [hr]
  unfold nameK at hr
  by_cases h1 : k < 1
  · have HR : Hid (r = []) := Lib.hid (by rw [← hr, if_neg (by omega)])
    have d1 : decide (k < 1) = true := by simpa using h1
    clear hr h1
    go_enter Tryz.func124, Tryz.ntmps124
    go_wp2_with fail
    go_ret
    exact ⟨by rw [HR.out]; rfl, rfl⟩
  · have d1 : decide (k < 1) = false := by simpa using h1
    by_cases h2 : 14 ≤ k
    · have HR : Hid (r = []) := Lib.hid (by rw [← hr, if_neg (by omega)])
      have d2 : decide (14 ≤ k) = true := by simpa using h2
      clear hr h1 h2
      go_enter Tryz.func124, Tryz.ntmps124
      go_wp2_with fail
      go_ret
      exact ⟨by rw [HR.out]; rfl, rfl⟩
    · have d2 : decide (14 ≤ k) = false := by simpa using h2
      obtain ⟨j, rfl⟩ := Int.eq_ofNat_of_zero_le (show 0 ≤ k by omega)
      have HR : Hid (r = nameL j) := Lib.hid (by rw [← hr, if_pos (by omega)]; rfl)
      have hc := hN j (by omega)
      have hj : (j : Int) < 14 := by omega
      have hj0 : (0 : Int) ≤ (j : Int) := by omega
      generalize nameL j = nm at *
      clear hr h1 h2 hN
      go_enter Tryz.func124, Tryz.ntmps124
      go_wp2_with fail
      go_ret
      exact ⟨by rw [HR.out]; rfl, rfl⟩
theorem nameK_empty (k : Int) : (nameK k = []) ↔ ¬ (1 ≤ k ∧ k ≤ 13) := by
  unfold nameK
  by_cases h : 1 ≤ k ∧ k ≤ 13
  · rw [if_pos h]
    have : k.toNat = 1 ∨ k.toNat = 2 ∨ k.toNat = 3 ∨ k.toNat = 4 ∨ k.toNat = 5 ∨ k.toNat = 6 ∨ k.toNat = 7 ∨ k.toNat = 8 ∨ k.toNat = 9 ∨ k.toNat = 10 ∨ k.toNat = 11 ∨ k.toNat = 12 ∨ k.toNat = 13 := by omega
    rcases this with e | e | e | e | e | e | e | e | e | e | e | e | e <;> rw [e] <;> simp [nameL, h]
  · rw [if_neg h]; simp [h]

/-! ### shapes -/
def n1 (k : Int) : Nat := if k = 1 then 1 else if k = 2 then 1 else if k = 3 then 3 else if k = 4 then 5 else if k = 5 then 5 else 0
def t1 (k : Int) : Nat := if k = 1 then 1 else if k = 2 then 0 else if k = 3 then 3 else if k = 4 then 0 else if k = 5 then 1 else 0
def i1 (k : Int) : Bool := decide (1 ≤ k ∧ k ≤ 5)
def n2 (k : Int) : Nat := if k = 1 then 1 else usesN k
def t2 (k : Int) : Nat := if k = 7 then 3 else usesT k
def i2 (k : Int) : Bool := decide (1 ≤ k ∧ k ≤ 13)
def sN (v k : Int) : Nat := if v = 1 then n1 k else if v = 2 then n2 k else 0
def sT (v k : Int) : Nat := if v = 1 then t1 k else if v = 2 then t2 k else 0
def sI (v k : Int) : Bool := if v = 1 then i1 k else if v = 2 then i2 k else false
theorem n1_lt (k : Int) : n1 k < 8 := by unfold n1; repeat (first | decide | refine ite_lt8 (by decide) ?_)
theorem t1_lt (k : Int) : t1 k < 8 := by unfold t1; repeat (first | decide | refine ite_lt8 (by decide) ?_)
theorem sN_lt (v k : Int) : sN v k < 8 := by
  unfold sN n2
  exact ite_lt8 (n1_lt k) (ite_lt8 (ite_lt8 (by decide) (usesN_lt k)) (by decide))
theorem sT_lt (v k : Int) : sT v k < 8 := by
  unfold sT t2
  exact ite_lt8 (t1_lt k) (ite_lt8 (ite_lt8 (by decide) (usesT_lt k)) (by decide))
def shV (m q : Nat) (i : Bool) : Value := .agg #[.int .i64 (m : Int), .int .i64 (q : Int), .bool i]
theorem set3 {w : World} {g : Nat} {T : TypeId} {c0 c1 c2 : Value} (h : Blk w g T #[c0, c1, c2]) (v0 v1 v2 : Value) : Blk (((w.setCell ⟨g, 0, none⟩ v0).setCell ⟨g, 1, none⟩ v1).setCell ⟨g, 2, none⟩ v2) g T #[v0, v1, v2] := by
  have := ((h.set_ 0 v0).set_ 1 v1).set_ 2 v2
  simpa using this
theorem oldFirst_1 (w : World) : Calls Tryz.prog 103 #[.int .i64 1] w fun e w' => e = .returned (shV 1 1 true) ∧ Below w.heap.size w w' := by
  go_enter Tryz.func103, Tryz.ntmps103
  go_wp2_with fail
  exact bodyPost_ret (v := shV 1 1 true) (by simp [results, Tryz.results103, go_sem, shV]) rfl ⟨rfl, bel_alloc (Below.refl _ _) _⟩
theorem oldFirst_2 (w : World) : Calls Tryz.prog 103 #[.int .i64 2] w fun e w' => e = .returned (shV 1 0 true) ∧ Below w.heap.size w w' := by
  go_enter Tryz.func103, Tryz.ntmps103
  go_wp2_with fail
  exact bodyPost_ret (v := shV 1 0 true) (by simp [results, Tryz.results103, go_sem, shV]) rfl ⟨rfl, bel_alloc (Below.refl _ _) _⟩
theorem oldFirst_3 (w : World) : Calls Tryz.prog 103 #[.int .i64 3] w fun e w' => e = .returned (shV 3 3 true) ∧ Below w.heap.size w w' := by
  go_enter Tryz.func103, Tryz.ntmps103
  go_wp2_with fail
  exact bodyPost_ret (v := shV 3 3 true) (by simp [results, Tryz.results103, go_sem, shV]) rfl ⟨rfl, bel_alloc (Below.refl _ _) _⟩
theorem oldFirst_4 (w : World) : Calls Tryz.prog 103 #[.int .i64 4] w fun e w' => e = .returned (shV 5 0 true) ∧ Below w.heap.size w w' := by
  go_enter Tryz.func103, Tryz.ntmps103
  go_wp2_with fail
  exact bodyPost_ret (v := shV 5 0 true) (by simp [results, Tryz.results103, go_sem, shV]) rfl ⟨rfl, bel_alloc (Below.refl _ _) _⟩
theorem oldFirst_5 (w : World) : Calls Tryz.prog 103 #[.int .i64 5] w fun e w' => e = .returned (shV 5 1 true) ∧ Below w.heap.size w w' := by
  go_enter Tryz.func103, Tryz.ntmps103
  go_wp2_with fail
  exact bodyPost_ret (v := shV 5 1 true) (by simp [results, Tryz.results103, go_sem, shV]) rfl ⟨rfl, bel_alloc (Below.refl _ _) _⟩
theorem oldFirst_any (k : Int) (w : World) : Calls Tryz.prog 103 #[.int .i64 k] w fun e w' => e = .returned (shV (n1 k) (t1 k) (i1 k)) ∧ Below w.heap.size w w' := by
  by_cases k1 : k = 1
  · rw [k1]; exact oldFirst_1 w
  by_cases k2 : k = 2
  · rw [k2]; exact oldFirst_2 w
  by_cases k3 : k = 3
  · rw [k3]; exact oldFirst_3 w
  by_cases k4 : k = 4
  · rw [k4]; exact oldFirst_4 w
  by_cases k5 : k = 5
  · rw [k5]; exact oldFirst_5 w
  have e1 : (k == 1) = false := by simpa using k1
  have e2 : (k == 2) = false := by simpa using k2
  have e3 : (k == 3) = false := by simpa using k3
  have e4 : (k == 4) = false := by simpa using k4
  have e5 : (k == 5) = false := by simpa using k5
  have z1 : n1 k = 0 := by unfold n1; rw [if_neg k1]; rw [if_neg k2]; rw [if_neg k3]; rw [if_neg k4]; rw [if_neg k5]
  have z2 : t1 k = 0 := by unfold t1; rw [if_neg k1]; rw [if_neg k2]; rw [if_neg k3]; rw [if_neg k4]; rw [if_neg k5]
  have z3 : i1 k = false := by unfold i1; simp; omega
  rw [z1, z2, z3]
  clear z1 z2 z3 k1 k2 k3 k4 k5
  go_enter Tryz.func103, Tryz.ntmps103
  go_wp2_with fail
  exact bodyPost_ret (v := shV 0 0 false) (by simp [results, Tryz.results103, go_sem, shV]) rfl ⟨rfl, bel_alloc (Below.refl _ _) _⟩
theorem oldSecond_any (k : Int) (w : World) (hN : Nms w) : Calls Tryz.prog 104 #[.int .i64 k] w fun e w' => e = .returned (shV (n2 k) (t2 k) (i2 k)) ∧ Below w.heap.size w w' := by
  have HU := Lib.hid (fun W => uses_any k W)
  have HM := Lib.hid (fun W h => name_any k W h)
  have HN := Lib.hid (hN.below (bel_alloc (Below.refl w.heap.size w) (.cells #[.int .i64 0, .int .i64 0, .bool false] 117)))
  have HI : Hid (i2 k = !(nameK k).isEmpty) := Lib.hid (by
    unfold i2
    by_cases h : 1 ≤ k ∧ k ≤ 13
    · have : nameK k ≠ [] := fun e => (nameK_empty k).1 e h
      simp [h, this]
    · have : nameK k = [] := (nameK_empty k).2 h
      simp [h, this])
  have h2n : n2 k = if k = 1 then 1 else usesN k := rfl
  have h2t : t2 k = if k = 7 then 3 else usesT k := rfl
  clear hN
  generalize usesN k = m at *
  generalize usesT k = q at *
  generalize n2 k = rm at *
  generalize t2 k = rq at *
  generalize i2 k = ri at *
  cases hnm : nameK k with
  | nil =>
    rw [hnm] at HI HM
    clear hnm
    by_cases k1 : k = 1
    · subst k1
      have HM1 : Hid (rm = 1) := Lib.hid (by rw [h2n]; simp)
      have HQ1 : Hid (rq = q) := Lib.hid (by rw [h2t]; simp)
      clear h2n h2t
      go_enter Tryz.func104, Tryz.ntmps104
      go_wp2_with fail
      (with_reducible refine (HU.out _).mono ?_)
      rintro e w1 ⟨rfl, rfl⟩
      go_wp2_with fail
      (with_reducible refine (HM.out _ HN.out).mono ?_)
      rintro e w1 ⟨rfl, rfl⟩
      go_wp2_with fail
      exact bodyPost_ret (v := shV 1 q false) (by simp [results, Tryz.results104, go_sem, shV]) rfl ⟨by rw [HM1.out, HQ1.out, HI.out]; rfl, bel_alloc (Below.refl _ _) _⟩
    · by_cases k7 : k = 7
      · subst k7
        have HM1 : Hid (rm = m) := Lib.hid (by rw [h2n]; simp)
        have HQ1 : Hid (rq = 3) := Lib.hid (by rw [h2t]; simp)
        clear h2n h2t
        go_enter Tryz.func104, Tryz.ntmps104
        go_wp2_with fail
        (with_reducible refine (HU.out _).mono ?_)
        rintro e w1 ⟨rfl, rfl⟩
        go_wp2_with fail
        (with_reducible refine (HM.out _ HN.out).mono ?_)
        rintro e w1 ⟨rfl, rfl⟩
        go_wp2_with fail
        exact bodyPost_ret (v := shV m 3 false) (by simp [results, Tryz.results104, go_sem, shV]) rfl ⟨by rw [HM1.out, HQ1.out, HI.out]; rfl, bel_alloc (Below.refl _ _) _⟩
      · have e1 : (k == 1) = false := by simpa using k1
        have e7 : (k == 7) = false := by simpa using k7
        have HM1 : Hid (rm = m) := Lib.hid (by rw [h2n, if_neg k1])
        have HQ1 : Hid (rq = q) := Lib.hid (by rw [h2t, if_neg k7])
        clear h2n h2t k1 k7
        go_enter Tryz.func104, Tryz.ntmps104
        go_wp2_with fail
        (with_reducible refine (HU.out _).mono ?_)
        rintro e w1 ⟨rfl, rfl⟩
        go_wp2_with fail
        (with_reducible refine (HM.out _ HN.out).mono ?_)
        rintro e w1 ⟨rfl, rfl⟩
        go_wp2_with fail
        exact bodyPost_ret (v := shV m q false) (by simp [results, Tryz.results104, go_sem, shV]) rfl ⟨by rw [HM1.out, HQ1.out, HI.out]; rfl, bel_alloc (Below.refl _ _) _⟩
  | cons a l =>
    rw [hnm] at HI HM
    clear hnm
    by_cases k1 : k = 1
    · subst k1
      have HM1 : Hid (rm = 1) := Lib.hid (by rw [h2n]; simp)
      have HQ1 : Hid (rq = q) := Lib.hid (by rw [h2t]; simp)
      clear h2n h2t
      go_enter Tryz.func104, Tryz.ntmps104
      go_wp2_with fail
      (with_reducible refine (HU.out _).mono ?_)
      rintro e w1 ⟨rfl, rfl⟩
      go_wp2_with fail
      (with_reducible refine (HM.out _ HN.out).mono ?_)
      rintro e w1 ⟨rfl, rfl⟩
      have ne1 : ¬ (a :: l) = [] := by simp
      have ne2 : (a :: l).isEmpty = false := rfl
      go_wp2_with fail
      exact bodyPost_ret (v := shV 1 q true) (by simp [results, Tryz.results104, go_sem, shV]) rfl ⟨by rw [HM1.out, HQ1.out, HI.out]; rfl, bel_alloc (Below.refl _ _) _⟩
    · by_cases k7 : k = 7
      · subst k7
        have HM1 : Hid (rm = m) := Lib.hid (by rw [h2n]; simp)
        have HQ1 : Hid (rq = 3) := Lib.hid (by rw [h2t]; simp)
        clear h2n h2t
        go_enter Tryz.func104, Tryz.ntmps104
        go_wp2_with fail
        (with_reducible refine (HU.out _).mono ?_)
        rintro e w1 ⟨rfl, rfl⟩
        go_wp2_with fail
        (with_reducible refine (HM.out _ HN.out).mono ?_)
        rintro e w1 ⟨rfl, rfl⟩
        have ne1 : ¬ (a :: l) = [] := by simp
        have ne2 : (a :: l).isEmpty = false := rfl
        go_wp2_with fail
        exact bodyPost_ret (v := shV m 3 true) (by simp [results, Tryz.results104, go_sem, shV]) rfl ⟨by rw [HM1.out, HQ1.out, HI.out]; rfl, bel_alloc (Below.refl _ _) _⟩
      · have e1 : (k == 1) = false := by simpa using k1
        have e7 : (k == 7) = false := by simpa using k7
        have HM1 : Hid (rm = m) := Lib.hid (by rw [h2n, if_neg k1])
        have HQ1 : Hid (rq = q) := Lib.hid (by rw [h2t, if_neg k7])
        clear h2n h2t k1 k7
        go_enter Tryz.func104, Tryz.ntmps104
        go_wp2_with fail
        (with_reducible refine (HU.out _).mono ?_)
        rintro e w1 ⟨rfl, rfl⟩
        go_wp2_with fail
        (with_reducible refine (HM.out _ HN.out).mono ?_)
        rintro e w1 ⟨rfl, rfl⟩
        have ne1 : ¬ (a :: l) = [] := by simp
        have ne2 : (a :: l).isEmpty = false := rfl
        go_wp2_with fail
        exact bodyPost_ret (v := shV m q true) (by simp [results, Tryz.results104, go_sem, shV]) rfl ⟨by rw [HM1.out, HQ1.out, HI.out]; rfl, bel_alloc (Below.refl _ _) _⟩

def OC (v k a b n : Int) (s t : List UInt8) : Array Value := #[.int .i64 v, .int .i64 k, .int .i64 a, .int .i64 b, .int .i64 n, .string ⟨s.toArray⟩, .string ⟨t.toArray⟩]
set_option maxHeartbeats 1000000 in
theorem shaped_any (v k a b n : Int) (s t : List UInt8) (w : World) (hN : Nms w) : Calls Tryz.prog 87 #[.agg (OC v k a b n s t)] w fun e w' => e = .returned (shV (sN v k) (sT v k) (sI v k)) ∧ Below w.heap.size w w' := by
  have H1 := Lib.hid (fun W => oldFirst_any k W)
  have HN := Lib.hid ((hN.below (bel_alloc (Below.refl w.heap.size w) (.cells (OC v k a b n s t) 90))).below (bel_alloc (Below.refl _ _) (.cells #[.int .i64 0, .int .i64 0, .bool false] 117)))
  have H2 := Lib.hid (fun W h => oldSecond_any k W h)
  have B0 := bel_alloc (bel_alloc (Below.refl w.heap.size w) (.cells (OC v k a b n s t) 90)) (.cells #[.int .i64 0, .int .i64 0, .bool false] 117)
  have hb0 : Blk ((w.alloc (.cells (OC v k a b n s t) 90)).alloc (.cells #[.int .i64 0, .int .i64 0, .bool false] 117)) (w.heap.size + 1) 117 #[.int .i64 0, .int .i64 0, .bool false] := by
    have := Blk.new (w.alloc (.cells (OC v k a b n s t) 90)) 117 #[.int .i64 0, .int .i64 0, .bool false]
    simpa using this
  clear hN
  unfold OC at *
  unfold sN sT sI
  by_cases v1 : v = 1
  · subst v1
    simp only [if_true]
    generalize n1 k = m at *
    generalize t1 k = q at *
    generalize i1 k = i at *
    go_enter Tryz.func87, Tryz.ntmps87
    go_wp2_with fail
    (with_reducible refine (H1.out _).mono ?_)
    rintro e w1 ⟨rfl, hb1⟩
    have hr1 := hb0.below hb1 hb0.lt
    have r0 := hr1.cell 0
    have r1 := hr1.cell 1
    have r2 := hr1.cell 2
    have rf := hr1.frozen
    simp at r0 r1 r2
    have HR1 := Lib.hid hr1
    have B1 := bel_step B0 hb1
    simp only [shV]
    clear hr1 hb1 hb0 B0
    go_wp2_with fail
    have HZ := set3 HR1.out (.int .i64 (m : Int)) (.int .i64 (q : Int)) (.bool i)
    have z0 := HZ.cell 0
    have z1 := HZ.cell 1
    have z2 := HZ.cell 2
    simp at z0 z1 z2
    exact bodyPost_ret (v := shV m q i) (by simp [results, Tryz.results87, go_sem, shV, z0, z1, z2]) rfl ⟨rfl, ((B1.setCell (p := ⟨w.heap.size + 1, 0, none⟩) (by simp) _).setCell (p := ⟨w.heap.size + 1, 1, none⟩) (by simp) _).setCell (p := ⟨w.heap.size + 1, 2, none⟩) (by simp) _⟩
  · rw [if_neg v1, if_neg v1, if_neg v1]
    have e1 : (v == 1) = false := by simpa using v1
    by_cases v2 : v = 2
    · subst v2
      simp only [if_true]
      generalize n2 k = m at *
      generalize t2 k = q at *
      generalize i2 k = i at *
      go_enter Tryz.func87, Tryz.ntmps87
      go_wp2_with fail
      (with_reducible refine (H2.out _ HN.out).mono ?_)
      rintro e w1 ⟨rfl, hb1⟩
      have hr1 := hb0.below hb1 hb0.lt
      have r0 := hr1.cell 0
      have r1 := hr1.cell 1
      have r2 := hr1.cell 2
      have rf := hr1.frozen
      simp at r0 r1 r2
      have HR1 := Lib.hid hr1
      have B1 := bel_step B0 hb1
      simp only [shV]
      clear hr1 hb1 hb0 B0
      go_wp2_with fail
      have HZ := set3 HR1.out (.int .i64 (m : Int)) (.int .i64 (q : Int)) (.bool i)
      have z0 := HZ.cell 0
      have z1 := HZ.cell 1
      have z2 := HZ.cell 2
      simp at z0 z1 z2
      exact bodyPost_ret (v := shV m q i) (by simp [results, Tryz.results87, go_sem, shV, z0, z1, z2]) rfl ⟨rfl, ((B1.setCell (p := ⟨w.heap.size + 1, 0, none⟩) (by simp) _).setCell (p := ⟨w.heap.size + 1, 1, none⟩) (by simp) _).setCell (p := ⟨w.heap.size + 1, 2, none⟩) (by simp) _⟩
    · rw [if_neg v2, if_neg v2, if_neg v2]
      have e2 : (v == 2) = false := by simpa using v2
      have HB := Lib.hid B0
      clear v1 v2 hb0 B0
      go_enter Tryz.func87, Tryz.ntmps87
      go_wp2_with fail
      exact bodyPost_ret (v := shV 0 0 false) (by simp [results, Tryz.results87, go_sem, shV]) rfl ⟨rfl, bel_alloc (bel_alloc (Below.refl _ _) _) _⟩
theorem oldFields_any (g : Nat) (w : World) : Calls Tryz.prog 88 #[.pointer (some ⟨g, 0, none⟩)] w fun e w' => e = .returned (.tuple #[.agg #[.pointer (some ⟨g, 2, none⟩), .pointer (some ⟨g, 3, none⟩), .pointer (some ⟨g, 4, none⟩)], .agg #[.pointer (some ⟨g, 5, none⟩), .pointer (some ⟨g, 6, none⟩)]]) ∧ Below w.heap.size w w' := by
  go_enter Tryz.func88, Tryz.ntmps88
  go_wp2_with fail
  go_region
  go_wp2_with fail
  exact bodyPost_ret (v := .tuple #[.agg #[.pointer (some ⟨g, 2, none⟩), .pointer (some ⟨g, 3, none⟩), .pointer (some ⟨g, 4, none⟩)], .agg #[.pointer (some ⟨g, 5, none⟩), .pointer (some ⟨g, 6, none⟩)]]) (by simp [results, Tryz.results88, go_sem]) rfl ⟨rfl, (bel_alloc (bel_alloc (Below.refl _ _) _) _).drew⟩
end Go.Proofs.YtfepinnfhcjopaaGreatDoor
end
section
namespace Go.Proofs.YtfepinnfhcjopaaGreatDoor
open Go.RowKit Go.Nst
set_option maxRecDepth 100000
set_option linter.unusedVariables false
set_option linter.unusedSimpArgs false

theorem bitF_0 {m : Nat} (h : m < 8) : (bits .and .i64 (m : Int) 1 == 0) = !bitB m 0 := by
  rcases (by omega : m = 0 ∨ m = 1 ∨ m = 2 ∨ m = 3 ∨ m = 4 ∨ m = 5 ∨ m = 6 ∨ m = 7) with rfl | rfl | rfl | rfl | rfl | rfl | rfl | rfl <;> decide
theorem bitF_1 {m : Nat} (h : m < 8) : (bits .and .i64 ((m : Int) / 2) 1 == 0) = !bitB m 1 := by
  rcases (by omega : m = 0 ∨ m = 1 ∨ m = 2 ∨ m = 3 ∨ m = 4 ∨ m = 5 ∨ m = 6 ∨ m = 7) with rfl | rfl | rfl | rfl | rfl | rfl | rfl | rfl <;> decide
theorem bitF_2 {m : Nat} (h : m < 8) : (bits .and .i64 ((m : Int) / 4) 1 == 0) = !bitB m 2 := by
  rcases (by omega : m = 0 ∨ m = 1 ∨ m = 2 ∨ m = 3 ∨ m = 4 ∨ m = 5 ∨ m = 6 ∨ m = 7) with rfl | rfl | rfl | rfl | rfl | rfl | rfl | rfl <;> decide
theorem arrO_0 (W : World) (x0 x1 : Option Addr) : (Instr.index 119 (.agg #[.pointer x0, .pointer x1]) (.int .i64 0)).run Tryz.prog W = .ok (.pointer x0) W := by kernel_rfl
theorem arrO_1 (W : World) (x0 x1 : Option Addr) : (Instr.index 119 (.agg #[.pointer x0, .pointer x1]) (.int .i64 1)).run Tryz.prog W = .ok (.pointer x1) W := by kernel_rfl
structure Ol where
  v : Int
  k : Int
  a : Int
  b : Int
  n : Int
  s : List UInt8
  t : List UInt8
deriving DecidableEq
def Ol.cells (o : Ol) : Array Value := OC o.v o.k o.a o.b o.n o.s o.t
def Ol.zero : Ol := ⟨0, 0, 0, 0, 0, [], []⟩
def chkN (m i : Nat) (x : Int) : Bool := mayB x && (bitB m i || x == 0)
def chkT (q i : Nat) (x : List UInt8) : Bool := decide (x.length ≤ 1024) && (bitB q i || x.isEmpty)
def okT (q : Nat) (i : Bool) (s t : List UInt8) : Nat → Bool
  | 0 => chkT q 0 s && (chkT q 1 t && i)
  | 1 => chkT q 1 t && i
  | _ => i
def okN (m q : Nat) (i : Bool) (a b n : Int) (s t : List UInt8) : Nat → Bool
  | 0 => chkN m 0 a && (chkN m 1 b && (chkN m 2 n && okT q i s t 0))
  | 1 => chkN m 1 b && (chkN m 2 n && okT q i s t 0)
  | 2 => chkN m 2 n && okT q i s t 0
  | _ => okT q i s t 0
def Ol.ok (o : Ol) : Bool := okN (sN o.v o.k) (sT o.v o.k) (sI o.v o.k) o.a o.b o.n o.s o.t 0
/-- the object, its shape and the places of its texts stand -/
structure OS (w wr : World) (gs gt : Nat) (o : Array Value) (m q : Nat) (i : Bool) : Prop where
  ob : Blk wr w.heap.size 90 o
  sh : Blk wr gs 117 #[.int .i64 (m : Int), .int .i64 (q : Int), .bool i]
  tx : Blk wr gt 119 #[.pointer (some ⟨w.heap.size, 5, none⟩), .pointer (some ⟨w.heap.size, 6, none⟩)]
  bel : Below w.heap.size w wr
theorem OS.below {w wr w3 : World} {gs gt : Nat} {o : Array Value} {m q : Nat} {i : Bool} (h : OS w wr gs gt o m q i) (hb : Below wr.heap.size wr w3) : OS w w3 gs gt o m q i :=
  ⟨h.ob.below hb h.ob.lt, h.sh.below hb h.sh.lt, h.tx.below hb h.tx.lt, bel_step h.bel hb⟩
theorem refUses16_1_1 (w : World) : Calls Tryz.prog 79 #[.int .i64 1, .int .i64 1] w fun e w' => e = .returned (.tuple #[.int .i64 1, .int .i64 1, .bool true]) ∧ w = w' := by
  go_enter Tryz.func79, Tryz.ntmps79
  go_wp2_with fail
  go_ret3
  exact ⟨rfl, rfl⟩
theorem refUses16_1_2 (w : World) : Calls Tryz.prog 79 #[.int .i64 1, .int .i64 2] w fun e w' => e = .returned (.tuple #[.int .i64 1, .int .i64 0, .bool true]) ∧ w = w' := by
  go_enter Tryz.func79, Tryz.ntmps79
  go_wp2_with fail
  go_ret3
  exact ⟨rfl, rfl⟩
theorem refUses16_1_3 (w : World) : Calls Tryz.prog 79 #[.int .i64 1, .int .i64 3] w fun e w' => e = .returned (.tuple #[.int .i64 3, .int .i64 3, .bool true]) ∧ w = w' := by
  go_enter Tryz.func79, Tryz.ntmps79
  go_wp2_with fail
  go_ret3
  exact ⟨rfl, rfl⟩
theorem refUses16_1_4 (w : World) : Calls Tryz.prog 79 #[.int .i64 1, .int .i64 4] w fun e w' => e = .returned (.tuple #[.int .i64 5, .int .i64 0, .bool true]) ∧ w = w' := by
  go_enter Tryz.func79, Tryz.ntmps79
  go_wp2_with fail
  go_ret3
  exact ⟨rfl, rfl⟩
theorem refUses16_1_5 (w : World) : Calls Tryz.prog 79 #[.int .i64 1, .int .i64 5] w fun e w' => e = .returned (.tuple #[.int .i64 5, .int .i64 1, .bool true]) ∧ w = w' := by
  go_enter Tryz.func79, Tryz.ntmps79
  go_wp2_with fail
  go_ret3
  exact ⟨rfl, rfl⟩
theorem refUses16_1_0 (k : Int) (hk : ¬ (1 ≤ k ∧ k ≤ 5)) (w : World) : Calls Tryz.prog 79 #[.int .i64 1, .int .i64 k] w fun e w' => e = .returned (.tuple #[.int .i64 0, .int .i64 0, .bool false]) ∧ w = w' := by
  have e1 : (k == 1) = false := by simp; omega
  have e2 : (k == 2) = false := by simp; omega
  have e3 : (k == 3) = false := by simp; omega
  have e4 : (k == 4) = false := by simp; omega
  have e5 : (k == 5) = false := by simp; omega
  clear hk
  go_enter Tryz.func79, Tryz.ntmps79
  go_wp2_with fail
  go_ret3
  exact ⟨rfl, rfl⟩
theorem refUses16_2_1 (w : World) : Calls Tryz.prog 79 #[.int .i64 2, .int .i64 1] w fun e w' => e = .returned (.tuple #[.int .i64 1, .int .i64 1, .bool true]) ∧ w = w' := by
  go_enter Tryz.func79, Tryz.ntmps79
  go_wp2_with fail
  go_ret3
  exact ⟨rfl, rfl⟩
theorem refUses16_2_2 (w : World) : Calls Tryz.prog 79 #[.int .i64 2, .int .i64 2] w fun e w' => e = .returned (.tuple #[.int .i64 1, .int .i64 0, .bool true]) ∧ w = w' := by
  go_enter Tryz.func79, Tryz.ntmps79
  go_wp2_with fail
  (with_reducible refine (refUses15_2 w).mono ?_)
  rintro e w1 ⟨rfl, rfl⟩
  go_wp2_with fail
  go_ret3
  exact ⟨rfl, rfl⟩
theorem refUses16_2_3 (w : World) : Calls Tryz.prog 79 #[.int .i64 2, .int .i64 3] w fun e w' => e = .returned (.tuple #[.int .i64 3, .int .i64 3, .bool true]) ∧ w = w' := by
  go_enter Tryz.func79, Tryz.ntmps79
  go_wp2_with fail
  (with_reducible refine (refUses15_3 w).mono ?_)
  rintro e w1 ⟨rfl, rfl⟩
  go_wp2_with fail
  go_ret3
  exact ⟨rfl, rfl⟩
theorem refUses16_2_4 (w : World) : Calls Tryz.prog 79 #[.int .i64 2, .int .i64 4] w fun e w' => e = .returned (.tuple #[.int .i64 1, .int .i64 0, .bool true]) ∧ w = w' := by
  go_enter Tryz.func79, Tryz.ntmps79
  go_wp2_with fail
  (with_reducible refine (refUses15_4 w).mono ?_)
  rintro e w1 ⟨rfl, rfl⟩
  go_wp2_with fail
  go_ret3
  exact ⟨rfl, rfl⟩
theorem refUses16_2_5 (w : World) : Calls Tryz.prog 79 #[.int .i64 2, .int .i64 5] w fun e w' => e = .returned (.tuple #[.int .i64 1, .int .i64 2, .bool true]) ∧ w = w' := by
  go_enter Tryz.func79, Tryz.ntmps79
  go_wp2_with fail
  (with_reducible refine (refUses15_5 w).mono ?_)
  rintro e w1 ⟨rfl, rfl⟩
  go_wp2_with fail
  go_ret3
  exact ⟨rfl, rfl⟩
theorem refUses16_2_6 (w : World) : Calls Tryz.prog 79 #[.int .i64 2, .int .i64 6] w fun e w' => e = .returned (.tuple #[.int .i64 3, .int .i64 0, .bool true]) ∧ w = w' := by
  go_enter Tryz.func79, Tryz.ntmps79
  go_wp2_with fail
  (with_reducible refine (refUses15_6 w).mono ?_)
  rintro e w1 ⟨rfl, rfl⟩
  go_wp2_with fail
  go_ret3
  exact ⟨rfl, rfl⟩
theorem refUses16_2_7 (w : World) : Calls Tryz.prog 79 #[.int .i64 2, .int .i64 7] w fun e w' => e = .returned (.tuple #[.int .i64 7, .int .i64 3, .bool true]) ∧ w = w' := by
  go_enter Tryz.func79, Tryz.ntmps79
  go_wp2_with fail
  go_ret3
  exact ⟨rfl, rfl⟩
theorem refUses16_2_8 (w : World) : Calls Tryz.prog 79 #[.int .i64 2, .int .i64 8] w fun e w' => e = .returned (.tuple #[.int .i64 5, .int .i64 0, .bool true]) ∧ w = w' := by
  go_enter Tryz.func79, Tryz.ntmps79
  go_wp2_with fail
  (with_reducible refine (refUses15_8 w).mono ?_)
  rintro e w1 ⟨rfl, rfl⟩
  go_wp2_with fail
  go_ret3
  exact ⟨rfl, rfl⟩
theorem refUses16_2_9 (w : World) : Calls Tryz.prog 79 #[.int .i64 2, .int .i64 9] w fun e w' => e = .returned (.tuple #[.int .i64 5, .int .i64 0, .bool true]) ∧ w = w' := by
  go_enter Tryz.func79, Tryz.ntmps79
  go_wp2_with fail
  (with_reducible refine (refUses15_9 w).mono ?_)
  rintro e w1 ⟨rfl, rfl⟩
  go_wp2_with fail
  go_ret3
  exact ⟨rfl, rfl⟩
theorem refUses16_2_10 (w : World) : Calls Tryz.prog 79 #[.int .i64 2, .int .i64 10] w fun e w' => e = .returned (.tuple #[.int .i64 5, .int .i64 1, .bool true]) ∧ w = w' := by
  go_enter Tryz.func79, Tryz.ntmps79
  go_wp2_with fail
  (with_reducible refine (refUses15_10 w).mono ?_)
  rintro e w1 ⟨rfl, rfl⟩
  go_wp2_with fail
  go_ret3
  exact ⟨rfl, rfl⟩
theorem refUses16_2_11 (w : World) : Calls Tryz.prog 79 #[.int .i64 2, .int .i64 11] w fun e w' => e = .returned (.tuple #[.int .i64 1, .int .i64 3, .bool true]) ∧ w = w' := by
  go_enter Tryz.func79, Tryz.ntmps79
  go_wp2_with fail
  (with_reducible refine (refUses15_11 w).mono ?_)
  rintro e w1 ⟨rfl, rfl⟩
  go_wp2_with fail
  go_ret3
  exact ⟨rfl, rfl⟩
theorem refUses16_2_12 (w : World) : Calls Tryz.prog 79 #[.int .i64 2, .int .i64 12] w fun e w' => e = .returned (.tuple #[.int .i64 1, .int .i64 0, .bool true]) ∧ w = w' := by
  go_enter Tryz.func79, Tryz.ntmps79
  go_wp2_with fail
  (with_reducible refine (refUses15_12 w).mono ?_)
  rintro e w1 ⟨rfl, rfl⟩
  go_wp2_with fail
  go_ret3
  exact ⟨rfl, rfl⟩
theorem refUses16_2_13 (w : World) : Calls Tryz.prog 79 #[.int .i64 2, .int .i64 13] w fun e w' => e = .returned (.tuple #[.int .i64 4, .int .i64 0, .bool true]) ∧ w = w' := by
  go_enter Tryz.func79, Tryz.ntmps79
  go_wp2_with fail
  (with_reducible refine (refUses15_13 w).mono ?_)
  rintro e w1 ⟨rfl, rfl⟩
  go_wp2_with fail
  go_ret3
  exact ⟨rfl, rfl⟩
theorem refUses16_2_lo (k : Int) (hk : k < 1) (w : World) : Calls Tryz.prog 79 #[.int .i64 2, .int .i64 k] w fun e w' => e = .returned (.tuple #[.int .i64 0, .int .i64 0, .bool false]) ∧ w = w' := by
  have e1 : decide (k < 1) = true := by simpa using hk
  clear hk
  go_enter Tryz.func79, Tryz.ntmps79
  go_wp2_with fail
  go_ret3
  exact ⟨rfl, rfl⟩
theorem refUses16_2_hi (k : Int) (hk : 13 < k) (w : World) : Calls Tryz.prog 79 #[.int .i64 2, .int .i64 k] w fun e w' => e = .returned (.tuple #[.int .i64 0, .int .i64 0, .bool false]) ∧ w = w' := by
  have e1 : decide (k < 1) = false := by simp; omega
  have e2 : decide (13 < k) = true := by simpa using hk
  clear hk
  go_enter Tryz.func79, Tryz.ntmps79
  go_wp2_with fail
  go_ret3
  exact ⟨rfl, rfl⟩
theorem refUses16_0 (v k : Int) (h1 : v ≠ 1) (h2 : v ≠ 2) (w : World) : Calls Tryz.prog 79 #[.int .i64 v, .int .i64 k] w fun e w' => e = .returned (.tuple #[.int .i64 0, .int .i64 0, .bool false]) ∧ w = w' := by
  have e1 : (v == 1) = false := by simpa using h1
  have e2 : (v != 2) = true := by simpa using h2
  clear h1 h2
  go_enter Tryz.func79, Tryz.ntmps79
  go_wp2_with fail
  go_ret3
  exact ⟨rfl, rfl⟩
theorem usesN_out {k : Int} (h : ¬ (1 ≤ k ∧ k ≤ 13)) : usesN k = 0 := by unfold usesN; iterate 13 (rw [if_neg (by omega)])
theorem usesT_out {k : Int} (h : ¬ (1 ≤ k ∧ k ≤ 13)) : usesT k = 0 := by unfold usesT; iterate 13 (rw [if_neg (by omega)])
theorem refUses16_any (v k : Int) (w : World) : Calls Tryz.prog 79 #[.int .i64 v, .int .i64 k] w fun e w' => e = .returned (.tuple #[.int .i64 ((sN v k : Nat) : Int), .int .i64 ((sT v k : Nat) : Int), .bool (sI v k)]) ∧ w = w' := by
  by_cases h1 : v = 1
  · subst h1
    by_cases hk : 1 ≤ k ∧ k ≤ 5
    · rcases (by omega : k = 1 ∨ k = 2 ∨ k = 3 ∨ k = 4 ∨ k = 5) with rfl | rfl | rfl | rfl | rfl
      · exact refUses16_1_1 w
      · exact refUses16_1_2 w
      · exact refUses16_1_3 w
      · exact refUses16_1_4 w
      · exact refUses16_1_5 w
    · have z1 : sN 1 k = 0 := by unfold sN n1; rw [if_pos rfl]; (repeat' split) <;> omega
      have z2 : sT 1 k = 0 := by unfold sT t1; rw [if_pos rfl]; (repeat' split) <;> omega
      have z3 : sI 1 k = false := by unfold sI i1; simp; omega
      rw [z1, z2, z3]
      exact refUses16_1_0 k hk w
  · by_cases h2 : v = 2
    · subst h2
      by_cases hk : 1 ≤ k ∧ k ≤ 13
      · rcases kind_cases k hk with rfl | rfl | rfl | rfl | rfl | rfl | rfl | rfl | rfl | rfl | rfl | rfl | rfl
        · exact refUses16_2_1 w
        · exact refUses16_2_2 w
        · exact refUses16_2_3 w
        · exact refUses16_2_4 w
        · exact refUses16_2_5 w
        · exact refUses16_2_6 w
        · exact refUses16_2_7 w
        · exact refUses16_2_8 w
        · exact refUses16_2_9 w
        · exact refUses16_2_10 w
        · exact refUses16_2_11 w
        · exact refUses16_2_12 w
        · exact refUses16_2_13 w
      · have z1 : sN 2 k = 0 := by unfold sN n2; rw [if_neg (by omega), if_pos rfl, if_neg (by omega)]; exact usesN_out hk
        have z2 : sT 2 k = 0 := by unfold sT t2; rw [if_neg (by omega), if_pos rfl, if_neg (by omega)]; exact usesT_out hk
        have z3 : sI 2 k = false := by unfold sI i2; simp; omega
        rw [z1, z2, z3]
        by_cases hlo : k < 1
        · exact refUses16_2_lo k hlo w
        · exact refUses16_2_hi k (by omega) w
    · have z1 : sN v k = 0 := by unfold sN; rw [if_neg h1, if_neg h2]
      have z2 : sT v k = 0 := by unfold sT; rw [if_neg h1, if_neg h2]
      have z3 : sI v k = false := by unfold sI; rw [if_neg h1, if_neg h2]
      rw [z1, z2, z3]
      exact refUses16_0 v k h1 h2 w
end Go.Proofs.YtfepinnfhcjopaaGreatDoor
end
section
namespace Go.Proofs.YtfepinnfhcjopaaGreatDoor
open Go.RowKit Go.Nst
set_option maxRecDepth 100000
set_option linter.unusedVariables false
set_option linter.unusedSimpArgs false

set_option maxHeartbeats 8000000 in
theorem oldCheck_any (v k a b n : Int) (s t : List UInt8) (w : World) (hs : s.length ≤ 100000) (ht : t.length ≤ 100000) (hN : Nms w) : Calls Tryz.prog 89 #[.agg (OC v k a b n s t)] w fun e w' => e = .returned (.int .i64 (if Ol.ok ⟨v, k, a, b, n, s, t⟩ then 0 else 160)) ∧ Below w.heap.size w w' := by
  have HSH := Lib.hid (fun W h => shaped_any v k a b n s t W h)
  have hN0 := hN.below (bel_alloc (Below.refl w.heap.size w) (.cells (OC v k a b n s t) 90))
  have hob := Blk.new w 90 (OC v k a b n s t)
  have B0 := bel_alloc (Below.refl w.heap.size w) (.cells (OC v k a b n s t) 90)
  have hm8 := sN_lt v k
  have hq8 := sT_lt v k
  obtain ⟨r, hr⟩ : ∃ r, Ol.ok ⟨v, k, a, b, n, s, t⟩ = r := ⟨_, rfl⟩
  have HR0 : Hid (r = okN (sN v k) (sT v k) (sI v k) a b n s t 0) := Lib.hid hr.symm
  rw [hr]
  clear hr
  generalize hres : (if r = true then (0 : Int) else 160) = res
  have HRES := Lib.hid hres
  clear hres
  generalize sN v k = m at *
  generalize sT v k = q at *
  generalize sI v k = i at *
  simp only [OC] at *
  go_enter Tryz.func89, Tryz.ntmps89
  go_wp2_with fail
  (with_reducible refine (HSH.out _ hN0).mono ?_)
  rintro e w1 ⟨rfl, hb1⟩
  have hob1 := hob.below hb1 hob.lt
  have B1 := bel_step B0 hb1
  simp only [shV]
  clear hb1 hob B0
  go_wp2_with fail
  (with_reducible refine (oldFields_any _ _).mono ?_)
  rintro e w2 ⟨rfl, hb2⟩
  have hsh2 := (Blk.new w1 117 #[.int .i64 (m : Int), .int .i64 (q : Int), .bool i]).below hb2 (by simp)
  have hob2 := (hob1.alloc (.cells #[.int .i64 (m : Int), .int .i64 (q : Int), .bool i] 117)).below hb2 (by have := hob1.lt; simp; omega)
  have B2 := bel_step (bel_alloc B1 (.cells #[.int .i64 (m : Int), .int .i64 (q : Int), .bool i] 117)) hb2
  have HOS : Hid (OS w ((w2.alloc (.cells #[.pointer (some ⟨w.heap.size, 2, none⟩), .pointer (some ⟨w.heap.size, 3, none⟩), .pointer (some ⟨w.heap.size, 4, none⟩)] 109)).alloc (.cells #[.pointer (some ⟨w.heap.size, 5, none⟩), .pointer (some ⟨w.heap.size, 6, none⟩)] 119)) w1.heap.size (w2.heap.size + 1) #[.int .i64 v, .int .i64 k, .int .i64 a, .int .i64 b, .int .i64 n, .string ⟨s.toArray⟩, .string ⟨t.toArray⟩] m q i) := by
    refine ⟨(hob2.alloc _).alloc _, (hsh2.alloc _).alloc _, ?_, bel_alloc (bel_alloc B2 _) _⟩
    have := Blk.new (w2.alloc (.cells #[.pointer (some ⟨w.heap.size, 2, none⟩), .pointer (some ⟨w.heap.size, 3, none⟩), .pointer (some ⟨w.heap.size, 4, none⟩)] 109)) 119 #[.pointer (some ⟨w.heap.size, 5, none⟩), .pointer (some ⟨w.heap.size, 6, none⟩)]
    simpa using this
  clear hb2 hsh2 hob2 B2 hob1 B1
  go_wp2_with fail
  generalize w1.heap.size = gs at *
  generalize w2.heap.size + 1 = gt at *
  go_loopw [19] (fun x wr => ∃ (z : Int), 0 ≤ z ∧ z ≤ 3 ∧ x = .int .i64 z ∧ OS w wr gs gt #[.int .i64 v, .int .i64 k, .int .i64 a, .int .i64 b, .int .i64 n, .string ⟨s.toArray⟩, .string ⟨t.toArray⟩] m q i ∧ Hid (r = okN m q i a b n s t z.toNat)) (fun x _ => (3 - intOf x).toNat)
  case atStart => exact ⟨0, by omega, by omega, rfl, HOS.out, HR0⟩
  case round =>
    clear HOS HR0
    obtain ⟨z, hz0, hz3, rfl, hO, HR⟩ := hrel
    rcases (by omega : z = 0 ∨ z = 1 ∨ z = 2 ∨ z = 3) with rfl | rfl | rfl | rfl
    · have HR : Hid (r = (chkN m 0 a && (chkN m 1 b && (chkN m 2 n && okT q i s t 0)))) := HR
      have i0 := arrI_0
      have sc0 := hO.sh.cell 0
      have sc1 := hO.sh.cell 1
      have sc2 := hO.sh.cell 2
      simp at sc0 sc1 sc2
      have d1 := hO.ob.cell 2
      simp at d1
      have HB := Lib.hid hO.bel
      cases hmay : mayB a with
      | false =>
        have HR2 : Hid (r = false) := Lib.hid (by rw [HR.out]; unfold chkN; rw [hmay]; rfl)
        have HP := Lib.hid (fun W => put_no a W hmay)
        clear hmay HR hO
        go_wp2_with fail
        (with_reducible refine (HP.out _).mono ?_)
        rintro e w3 ⟨rfl, rfl⟩
        go_wp2_with fail
        go_ret
        exact ⟨by rw [← HRES.out, HR2.out]; rfl, HB.out⟩
      | true =>
        have HP := Lib.hid (fun W => put_yes a W hmay)
        generalize putL (zig a) = px at *
        have HOB := Lib.hid (fun W (h : Below wr.heap.size wr W) => hO.below h)
        clear hO
        cases hbt : bitB m 0 with
        | true =>
          have e1 : (bits .and .i64 (m : Int) 1 == 0) = false := (bitF_0 hm8).trans (by rw [hbt]; rfl)
          have HN : Hid (r = (chkN m 1 b && (chkN m 2 n && okT q i s t 0))) := Lib.hid (by rw [HR.out]; unfold chkN; rw [hmay, hbt]; simp)
          clear hmay hbt HR
          go_wp2_with fail
          (with_reducible refine (HP.out _).mono ?_)
          rintro e w3 ⟨A3, n3, c3, rfl, ho3, hb3⟩
          have hO3 := HOB.out w3 hb3
          have sd0 := hO3.sh.cell 0
          simp at sd0
          have dd1 := hO3.ob.cell 2
          simp at dd1
          have HO3 := Lib.hid hO3
          clear hb3 hO3 ho3
          go_wp2_with fail
          go_roundw
          case rel => exact ⟨1, by omega, by omega, rfl, HO3.out, HN⟩
          case measure => simp [intOf]
        | false =>
          have e1 : (bits .and .i64 (m : Int) 1 == 0) = true := (bitF_0 hm8).trans (by rw [hbt]; rfl)
          by_cases hx0 : a = 0
          · have HN : Hid (r = (chkN m 1 b && (chkN m 2 n && okT q i s t 0))) := Lib.hid (by rw [HR.out]; unfold chkN; rw [hmay, hbt, hx0]; simp)
            have e2 : (a != 0) = false := by simpa using hx0
            clear hmay hbt HR hx0
            go_wp2_with fail
            (with_reducible refine (HP.out _).mono ?_)
            rintro e w3 ⟨A3, n3, c3, rfl, ho3, hb3⟩
            have hO3 := HOB.out w3 hb3
            have sd0 := hO3.sh.cell 0
            simp at sd0
            have dd1 := hO3.ob.cell 2
            simp at dd1
            have HO3 := Lib.hid hO3
            clear hb3 hO3 ho3
            go_wp2_with fail
            go_roundw
            case rel => exact ⟨1, by omega, by omega, rfl, HO3.out, HN⟩
            case measure => simp [intOf]
          · have HN : Hid (r = false) := Lib.hid (by rw [HR.out]; unfold chkN; rw [hmay, hbt]; simp [hx0])
            have e2 : (a != 0) = true := by simpa using hx0
            clear hmay hbt HR hx0
            go_wp2_with fail
            (with_reducible refine (HP.out _).mono ?_)
            rintro e w3 ⟨A3, n3, c3, rfl, ho3, hb3⟩
            have hO3 := HOB.out w3 hb3
            have sd0 := hO3.sh.cell 0
            simp at sd0
            have dd1 := hO3.ob.cell 2
            simp at dd1
            have HO3 := Lib.hid hO3
            clear hb3 hO3 ho3
            go_wp2_with fail
            go_ret
            exact ⟨by rw [← HRES.out, HN.out]; rfl, HO3.out.bel⟩
    · have HR : Hid (r = (chkN m 1 b && (chkN m 2 n && okT q i s t 0))) := HR
      have i0 := arrI_1
      have sc0 := hO.sh.cell 0
      have sc1 := hO.sh.cell 1
      have sc2 := hO.sh.cell 2
      simp at sc0 sc1 sc2
      have d1 := hO.ob.cell 3
      simp at d1
      have HB := Lib.hid hO.bel
      cases hmay : mayB b with
      | false =>
        have HR2 : Hid (r = false) := Lib.hid (by rw [HR.out]; unfold chkN; rw [hmay]; rfl)
        have HP := Lib.hid (fun W => put_no b W hmay)
        clear hmay HR hO
        go_wp2_with fail
        (with_reducible refine (HP.out _).mono ?_)
        rintro e w3 ⟨rfl, rfl⟩
        go_wp2_with fail
        go_ret
        exact ⟨by rw [← HRES.out, HR2.out]; rfl, HB.out⟩
      | true =>
        have HP := Lib.hid (fun W => put_yes b W hmay)
        generalize putL (zig b) = px at *
        have HOB := Lib.hid (fun W (h : Below wr.heap.size wr W) => hO.below h)
        clear hO
        cases hbt : bitB m 1 with
        | true =>
          have e1 : (bits .and .i64 ((m : Int) / 2) 1 == 0) = false := (bitF_1 hm8).trans (by rw [hbt]; rfl)
          have HN : Hid (r = (chkN m 2 n && okT q i s t 0)) := Lib.hid (by rw [HR.out]; unfold chkN; rw [hmay, hbt]; simp)
          clear hmay hbt HR
          go_wp2_with fail
          (with_reducible refine (HP.out _).mono ?_)
          rintro e w3 ⟨A3, n3, c3, rfl, ho3, hb3⟩
          have hO3 := HOB.out w3 hb3
          have sd0 := hO3.sh.cell 0
          simp at sd0
          have dd1 := hO3.ob.cell 3
          simp at dd1
          have HO3 := Lib.hid hO3
          clear hb3 hO3 ho3
          go_wp2_with fail
          go_roundw
          case rel => exact ⟨2, by omega, by omega, rfl, HO3.out, HN⟩
          case measure => simp [intOf]
        | false =>
          have e1 : (bits .and .i64 ((m : Int) / 2) 1 == 0) = true := (bitF_1 hm8).trans (by rw [hbt]; rfl)
          by_cases hx0 : b = 0
          · have HN : Hid (r = (chkN m 2 n && okT q i s t 0)) := Lib.hid (by rw [HR.out]; unfold chkN; rw [hmay, hbt, hx0]; simp)
            have e2 : (b != 0) = false := by simpa using hx0
            clear hmay hbt HR hx0
            go_wp2_with fail
            (with_reducible refine (HP.out _).mono ?_)
            rintro e w3 ⟨A3, n3, c3, rfl, ho3, hb3⟩
            have hO3 := HOB.out w3 hb3
            have sd0 := hO3.sh.cell 0
            simp at sd0
            have dd1 := hO3.ob.cell 3
            simp at dd1
            have HO3 := Lib.hid hO3
            clear hb3 hO3 ho3
            go_wp2_with fail
            go_roundw
            case rel => exact ⟨2, by omega, by omega, rfl, HO3.out, HN⟩
            case measure => simp [intOf]
          · have HN : Hid (r = false) := Lib.hid (by rw [HR.out]; unfold chkN; rw [hmay, hbt]; simp [hx0])
            have e2 : (b != 0) = true := by simpa using hx0
            clear hmay hbt HR hx0
            go_wp2_with fail
            (with_reducible refine (HP.out _).mono ?_)
            rintro e w3 ⟨A3, n3, c3, rfl, ho3, hb3⟩
            have hO3 := HOB.out w3 hb3
            have sd0 := hO3.sh.cell 0
            simp at sd0
            have dd1 := hO3.ob.cell 3
            simp at dd1
            have HO3 := Lib.hid hO3
            clear hb3 hO3 ho3
            go_wp2_with fail
            go_ret
            exact ⟨by rw [← HRES.out, HN.out]; rfl, HO3.out.bel⟩
    · have HR : Hid (r = (chkN m 2 n && okT q i s t 0)) := HR
      have i0 := arrI_2
      have sc0 := hO.sh.cell 0
      have sc1 := hO.sh.cell 1
      have sc2 := hO.sh.cell 2
      simp at sc0 sc1 sc2
      have d1 := hO.ob.cell 4
      simp at d1
      have HB := Lib.hid hO.bel
      cases hmay : mayB n with
      | false =>
        have HR2 : Hid (r = false) := Lib.hid (by rw [HR.out]; unfold chkN; rw [hmay]; rfl)
        have HP := Lib.hid (fun W => put_no n W hmay)
        clear hmay HR hO
        go_wp2_with fail
        (with_reducible refine (HP.out _).mono ?_)
        rintro e w3 ⟨rfl, rfl⟩
        go_wp2_with fail
        go_ret
        exact ⟨by rw [← HRES.out, HR2.out]; rfl, HB.out⟩
      | true =>
        have HP := Lib.hid (fun W => put_yes n W hmay)
        generalize putL (zig n) = px at *
        have HOB := Lib.hid (fun W (h : Below wr.heap.size wr W) => hO.below h)
        clear hO
        cases hbt : bitB m 2 with
        | true =>
          have e1 : (bits .and .i64 ((m : Int) / 4) 1 == 0) = false := (bitF_2 hm8).trans (by rw [hbt]; rfl)
          have HN : Hid (r = okT q i s t 0) := Lib.hid (by rw [HR.out]; unfold chkN; rw [hmay, hbt]; simp)
          clear hmay hbt HR
          go_wp2_with fail
          (with_reducible refine (HP.out _).mono ?_)
          rintro e w3 ⟨A3, n3, c3, rfl, ho3, hb3⟩
          have hO3 := HOB.out w3 hb3
          have sd0 := hO3.sh.cell 0
          simp at sd0
          have dd1 := hO3.ob.cell 4
          simp at dd1
          have HO3 := Lib.hid hO3
          clear hb3 hO3 ho3
          go_wp2_with fail
          go_roundw
          case rel => exact ⟨3, by omega, by omega, rfl, HO3.out, HN⟩
          case measure => simp [intOf]
        | false =>
          have e1 : (bits .and .i64 ((m : Int) / 4) 1 == 0) = true := (bitF_2 hm8).trans (by rw [hbt]; rfl)
          by_cases hx0 : n = 0
          · have HN : Hid (r = okT q i s t 0) := Lib.hid (by rw [HR.out]; unfold chkN; rw [hmay, hbt, hx0]; simp)
            have e2 : (n != 0) = false := by simpa using hx0
            clear hmay hbt HR hx0
            go_wp2_with fail
            (with_reducible refine (HP.out _).mono ?_)
            rintro e w3 ⟨A3, n3, c3, rfl, ho3, hb3⟩
            have hO3 := HOB.out w3 hb3
            have sd0 := hO3.sh.cell 0
            simp at sd0
            have dd1 := hO3.ob.cell 4
            simp at dd1
            have HO3 := Lib.hid hO3
            clear hb3 hO3 ho3
            go_wp2_with fail
            go_roundw
            case rel => exact ⟨3, by omega, by omega, rfl, HO3.out, HN⟩
            case measure => simp [intOf]
          · have HN : Hid (r = false) := Lib.hid (by rw [HR.out]; unfold chkN; rw [hmay, hbt]; simp [hx0])
            have e2 : (n != 0) = true := by simpa using hx0
            clear hmay hbt HR hx0
            go_wp2_with fail
            (with_reducible refine (HP.out _).mono ?_)
            rintro e w3 ⟨A3, n3, c3, rfl, ho3, hb3⟩
            have hO3 := HOB.out w3 hb3
            have sd0 := hO3.sh.cell 0
            simp at sd0
            have dd1 := hO3.ob.cell 4
            simp at dd1
            have HO3 := Lib.hid hO3
            clear hb3 hO3 ho3
            go_wp2_with fail
            go_ret
            exact ⟨by rw [← HRES.out, HN.out]; rfl, HO3.out.bel⟩
    · have HR : Hid (r = okT q i s t 0) := HR
      have tc0 := hO.tx.cell 0
      have tc1 := hO.tx.cell 1
      simp at tc0 tc1
      have HO := Lib.hid hO
      obtain ⟨wo, rfl⟩ : ∃ wo : World, wo = wr := ⟨_, rfl⟩
      clear hO
      go_wp2_with fail
      clear tc0 tc1
      go_loopw [48] (fun x wr => ∃ (z : Int), 0 ≤ z ∧ z ≤ 2 ∧ x = .int .i64 z ∧ OS w wr gs gt #[.int .i64 v, .int .i64 k, .int .i64 a, .int .i64 b, .int .i64 n, .string ⟨s.toArray⟩, .string ⟨t.toArray⟩] m q i ∧ Hid (r = okT q i s t z.toNat)) (fun x _ => (2 - intOf x).toNat)
      case atStart => exact ⟨0, by omega, by omega, rfl, HO.out, HR⟩
      case round =>
        clear HO HR
        obtain ⟨z, hz0, hz3, rfl, hO, HR⟩ := hrel
        rcases (by omega : z = 0 ∨ z = 1 ∨ z = 2) with rfl | rfl | rfl
        · have HR : Hid (r = (chkT q 0 s && (chkT q 1 t && i))) := HR
          have i0 := arrO_0
          have sc0 := hO.sh.cell 0
          have sc1 := hO.sh.cell 1
          have sc2 := hO.sh.cell 2
          simp at sc0 sc1 sc2
          have d1 := hO.ob.cell 5
          simp at d1
          have HO := Lib.hid hO
          clear hO
          by_cases hl : 1024 < s.length
          · have g1 : decide ((1024 : Int) < (s.length : Int)) = true := by simp; omega
            have HN : Hid (r = false) := Lib.hid (by rw [HR.out]; unfold chkT; rw [show decide (s.length ≤ 1024) = false by simp; omega]; rfl)
            clear HR hl
            go_wp2_with fail
            go_ret
            exact ⟨by rw [← HRES.out, HN.out]; rfl, HO.out.bel⟩
          · have g1 : decide ((1024 : Int) < (s.length : Int)) = false := by simp; omega
            have hl2 : decide (s.length ≤ 1024) = true := by simp; omega
            cases hbt : bitB q 0 with
            | true =>
              have e1 : (bits .and .i64 (q : Int) 1 == 0) = false := (bitF_0 hq8).trans (by rw [hbt]; rfl)
              have HN : Hid (r = (chkT q 1 t && i)) := Lib.hid (by rw [HR.out]; unfold chkT; rw [hl2, hbt]; simp)
              clear hbt HR hl hl2
              go_wp2_with fail
              go_roundw
              case rel => exact ⟨1, by omega, by omega, rfl, HO.out, HN⟩
              case measure => simp [intOf]
            | false =>
              have e1 : (bits .and .i64 (q : Int) 1 == 0) = true := (bitF_0 hq8).trans (by rw [hbt]; rfl)
              by_cases hx0 : s = []
              · have HN : Hid (r = (chkT q 1 t && i)) := Lib.hid (by rw [HR.out]; unfold chkT; rw [hl2, hbt, hx0]; simp)
                have HX := Lib.hid hx0
                clear hbt HR hl hl2
                have x1 : s.isEmpty = true := by rw [hx0]; rfl
                go_wp2_with fail
                go_roundw
                case rel => exact ⟨1, by omega, by omega, rfl, HO.out, HN⟩
                case measure => simp [intOf]
              · have x1 : s.isEmpty = false := by simpa using hx0
                have HN : Hid (r = false) := Lib.hid (by rw [HR.out]; unfold chkT; rw [hl2, hbt, x1]; simp)
                clear hbt HR hl hl2
                go_wp2_with fail
                go_ret
                exact ⟨by rw [← HRES.out, HN.out]; rfl, HO.out.bel⟩
        · have HR : Hid (r = (chkT q 1 t && i)) := HR
          have i0 := arrO_1
          have sc0 := hO.sh.cell 0
          have sc1 := hO.sh.cell 1
          have sc2 := hO.sh.cell 2
          simp at sc0 sc1 sc2
          have d1 := hO.ob.cell 6
          simp at d1
          have HO := Lib.hid hO
          clear hO
          by_cases hl : 1024 < t.length
          · have g1 : decide ((1024 : Int) < (t.length : Int)) = true := by simp; omega
            have HN : Hid (r = false) := Lib.hid (by rw [HR.out]; unfold chkT; rw [show decide (t.length ≤ 1024) = false by simp; omega]; rfl)
            clear HR hl
            go_wp2_with fail
            go_ret
            exact ⟨by rw [← HRES.out, HN.out]; rfl, HO.out.bel⟩
          · have g1 : decide ((1024 : Int) < (t.length : Int)) = false := by simp; omega
            have hl2 : decide (t.length ≤ 1024) = true := by simp; omega
            cases hbt : bitB q 1 with
            | true =>
              have e1 : (bits .and .i64 ((q : Int) / 2) 1 == 0) = false := (bitF_1 hq8).trans (by rw [hbt]; rfl)
              have HN : Hid (r = i) := Lib.hid (by rw [HR.out]; unfold chkT; rw [hl2, hbt]; simp)
              clear hbt HR hl hl2
              go_wp2_with fail
              go_roundw
              case rel => exact ⟨2, by omega, by omega, rfl, HO.out, HN⟩
              case measure => simp [intOf]
            | false =>
              have e1 : (bits .and .i64 ((q : Int) / 2) 1 == 0) = true := (bitF_1 hq8).trans (by rw [hbt]; rfl)
              by_cases hx0 : t = []
              · have HN : Hid (r = i) := Lib.hid (by rw [HR.out]; unfold chkT; rw [hl2, hbt, hx0]; simp)
                have HX := Lib.hid hx0
                clear hbt HR hl hl2
                have x1 : t.isEmpty = true := by rw [hx0]; rfl
                go_wp2_with fail
                go_roundw
                case rel => exact ⟨2, by omega, by omega, rfl, HO.out, HN⟩
                case measure => simp [intOf]
              · have x1 : t.isEmpty = false := by simpa using hx0
                have HN : Hid (r = false) := Lib.hid (by rw [HR.out]; unfold chkT; rw [hl2, hbt, x1]; simp)
                clear hbt HR hl hl2
                go_wp2_with fail
                go_ret
                exact ⟨by rw [← HRES.out, HN.out]; rfl, HO.out.bel⟩
        · have HR : Hid (r = i) := HR
          have sc2 := hO.sh.cell 2
          simp at sc2
          have HB := Lib.hid hO.bel
          clear hO
          cases i with
          | true =>
            go_wp2_with fail
            go_ret
            exact ⟨by rw [← HRES.out, HR.out]; rfl, HB.out⟩
          | false =>
            go_wp2_with fail
            go_ret
            exact ⟨by rw [← HRES.out, HR.out]; rfl, HB.out⟩
end Go.Proofs.YtfepinnfhcjopaaGreatDoor
end
