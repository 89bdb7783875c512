/-
  The document's part.
-/
import Derived.Test.YtjmmgekildlckaaXmX
namespace Go.Proofs.Ytjmmgekildlckaa
open Go.RowKit Go.Nst
set_option maxRecDepth 100000
set_option linter.unusedVariables false
set_option linter.unusedSimpArgs false

theorem partD_0 {l : List UInt8} (p0 : Lib.hasPrefix l [60, 33, 45, 45] = true) : partD l = (match uptoD (l.drop 4) [45, 45, 62] with | none => none | some (_, b) => some ([], b) : Option (List Xtk × List UInt8)) := by
  unfold partD
  rw [if_pos p0]
  first | done | rfl | (split <;> rfl)
theorem partD_1 {l : List UInt8} (p0 : Lib.hasPrefix l [60, 33, 45, 45] = false) (p1 : Lib.hasPrefix l [60, 63] = true) : partD l = (match uptoD (l.drop 2) [63, 62] with | none => none | some (_, b) => some ([], b) : Option (List Xtk × List UInt8)) := by
  unfold partD
  rw [if_neg (by rw [p0]; simp)]
  rw [if_pos p1]
  first | done | rfl | (split <;> rfl)
theorem partD_2 {l : List UInt8} (p0 : Lib.hasPrefix l [60, 33, 45, 45] = false) (p1 : Lib.hasPrefix l [60, 63] = false) (p2 : Lib.hasPrefix l [60, 33, 68, 79, 67, 84, 89, 80, 69] = true) : partD l = (match uptoD (l.drop 9) [62] with | none => none | some (a, b) => if (91 : UInt8) ∈ a then none else some ([], b) : Option (List Xtk × List UInt8)) := by
  unfold partD
  rw [if_neg (by rw [p0]; simp)]
  rw [if_neg (by rw [p1]; simp)]
  rw [if_pos p2]
  first | done | rfl | (split <;> rfl)
theorem partD_3 {l : List UInt8} (p0 : Lib.hasPrefix l [60, 33, 45, 45] = false) (p1 : Lib.hasPrefix l [60, 63] = false) (p2 : Lib.hasPrefix l [60, 33, 68, 79, 67, 84, 89, 80, 69] = false) (p3 : Lib.hasPrefix l [60, 33, 91, 67, 68, 65, 84, 65, 91] = true) : partD l = (match uptoD (l.drop 9) [93, 93, 62] with | none => none | some (a, b) => some ([⟨3, [], [], a⟩], b)) := by
  unfold partD
  rw [if_neg (by rw [p0]; simp)]
  rw [if_neg (by rw [p1]; simp)]
  rw [if_neg (by rw [p2]; simp)]
  rw [if_pos p3]
  first | done | rfl | (split <;> rfl)
theorem partD_4 {l : List UInt8} (p0 : Lib.hasPrefix l [60, 33, 45, 45] = false) (p1 : Lib.hasPrefix l [60, 63] = false) (p2 : Lib.hasPrefix l [60, 33, 68, 79, 67, 84, 89, 80, 69] = false) (p3 : Lib.hasPrefix l [60, 33, 91, 67, 68, 65, 84, 65, 91] = false) (p4 : Lib.hasPrefix l [60, 47] = true) : partD l = (closeD (l.drop 2)) := by
  unfold partD
  rw [if_neg (by rw [p0]; simp)]
  rw [if_neg (by rw [p1]; simp)]
  rw [if_neg (by rw [p2]; simp)]
  rw [if_neg (by rw [p3]; simp)]
  rw [if_pos p4]
  first | done | rfl | (split <;> rfl)
theorem partD_5 {l : List UInt8} (p0 : Lib.hasPrefix l [60, 33, 45, 45] = false) (p1 : Lib.hasPrefix l [60, 63] = false) (p2 : Lib.hasPrefix l [60, 33, 68, 79, 67, 84, 89, 80, 69] = false) (p3 : Lib.hasPrefix l [60, 33, 91, 67, 68, 65, 84, 65, 91] = false) (p4 : Lib.hasPrefix l [60, 47] = false) (p5 : Lib.hasPrefix l [60] = true) : partD l = (openN (l.drop 1)) := by
  unfold partD
  rw [if_neg (by rw [p0]; simp)]
  rw [if_neg (by rw [p1]; simp)]
  rw [if_neg (by rw [p2]; simp)]
  rw [if_neg (by rw [p3]; simp)]
  rw [if_neg (by rw [p4]; simp)]
  rw [if_pos p5]
  first | done | rfl | (split <;> rfl)
theorem txt_index (l : List UInt8) : (Lib.index l [60] = -1 ∧ l.takeWhile txtB = l ∧ l.dropWhile txtB = []) ∨ (∃ i : Nat, Lib.index l [60] = i ∧ i ≤ l.length ∧ l.takeWhile txtB = l.take i ∧ l.dropWhile txtB = l.drop i) := by
  have key : ∀ i, i ≤ l.length → Lib.NoOcc l [60] i → (l.take i).all txtB = true := by
    intro i
    induction i with
    | zero => intro _ _; rfl
    | succ i ih =>
      intro hi h
      have hg : l[i]? = some (l[i]'(by omega)) := List.getElem?_eq_getElem (by omega)
      refine all_more (ih (by omega) (fun j hj => h j (by omega))) hg ?_
      have := h i (by omega)
      unfold Lib.occAt at this
      rw [List.drop_eq_getElem_cons (by omega)] at this
      simp only [List.isPrefixOf, Bool.and_true, beq_eq_false_iff_ne, ne_eq] at this
      simp only [txtB, bne_iff_ne, ne_eq]
      intro e
      exact this (UInt8.toNat_inj.1 (by rw [e]; rfl))
  rcases Lib.index_spec l [60] with ⟨h1, h2⟩ | ⟨i, h1, h2, h3, h4⟩
  · left
    have := key l.length (Nat.le_refl _) (fun j hj => h2 j (by omega))
    rw [List.take_length] at this
    exact ⟨h1, Nst.take_all this⟩
  · right
    refine ⟨i, h1, h2, tw_stop (key i h2 h4) (.inr ⟨60, Lib.occAt_head rfl h3, rfl⟩)⟩
theorem partD_txt {c : UInt8} {t : List UInt8} (h : c ≠ 60) : partD (c :: t) = some ([⟨3, [], [], readL ((c :: t).takeWhile txtB)⟩], (c :: t).dropWhile txtB) := by
  have hp : ∀ p : List UInt8, Lib.hasPrefix (c :: t) (60 :: p) = false := fun p => by
    simp [Lib.hasPrefix, List.isPrefixOf, Ne.symm h]
  unfold partD
  rw [if_neg (by rw [hp]; simp), if_neg (by rw [hp]; simp), if_neg (by rw [hp]; simp), if_neg (by rw [hp]; simp), if_neg (by rw [hp]; simp), if_neg (by rw [hp]; simp)]
theorem partD_open {t : List UInt8} (p0 : Lib.hasPrefix (60 :: t) [60, 33, 45, 45] = false) (p1 : Lib.hasPrefix (60 :: t) [60, 63] = false) (p2 : Lib.hasPrefix (60 :: t) [60, 33, 68, 79, 67, 84, 89, 80, 69] = false) (p3 : Lib.hasPrefix (60 :: t) [60, 33, 91, 67, 68, 65, 84, 65, 91] = false) (p4 : Lib.hasPrefix (60 :: t) [60, 47] = false) : partD (60 :: t) = openN t :=
  partD_5 p0 p1 p2 p3 p4 (by simp [Lib.hasPrefix, List.isPrefixOf])
set_option maxHeartbeats 8000000 in
theorem refPart8_txt (c : UInt8) (t : List UInt8) (w : World) (hl : (c :: t).length ≤ 100000) (h60 : c ≠ 60) : Calls Try.prog 27 #[.string ⟨(c :: t).toArray⟩] w (RetTS w (partD (c :: t))) := by
  rw [partD_txt h60]
  obtain ⟨s0, hs0⟩ : ∃ s0, ByteArray.mk (c :: t).toArray = s0 := ⟨_, rfl⟩
  have hz0 : s0.size = (c :: t).length := by rw [← hs0, size_of]
  have hp0 : 0 < s0.size := by rw [hz0]; simp
  have hg0 : s0[0] = c := by subst hs0; rfl
  have hzz : s0.size ≤ 100000 := by omega
  have hc1 : ((c.toNat : Int) != 60) = true := by
    simp only [bne_iff_ne, ne_eq]
    intro e
    exact h60 (UInt8.toNat_inj.1 (by show c.toNat = 60; omega))
  have hc8 := c.toNat_lt
  have hx1 : ∀ k, s0.extract 0 k = ⟨((c :: t).take k).toArray⟩ := fun k => by rw [← hs0, xstr_take]
  have hx2 : ∀ k, s0.extract k s0.size = ⟨((c :: t).drop k).toArray⟩ := fun k => by rw [hz0, ← hs0, xstr_drop]
  have HF := Lib.hid (fun W => refFind8_any (c :: t) [60] W (by omega) (by simp) (by simp))
  rw [hs0] at HF
  have key : ∀ i : Nat, i ≤ (c :: t).length → (c :: t).takeWhile txtB = (c :: t).take i → (c :: t).dropWhile txtB = (c :: t).drop i → ∃ z : Int, (∀ W : World, Calls Try.prog 40 #[.string s0, .string ⟨#[60]⟩] W fun e w' => e = .returned (.int .i64 z) ∧ w' = W) ∧ (z < 0 ∧ i = (c :: t).length ∨ z = i) → True := fun _ _ _ _ => ⟨0, fun _ => trivial⟩
  clear key
  have hR : ∀ i : Nat, i ≤ (c :: t).length → ∀ W : World, Calls Try.prog 41 #[.string ⟨((c :: t).take i).toArray⟩] W (RetS W (readL ((c :: t).take i))) := fun i hi W => by
    have := refRead7_any ⟨((c :: t).take i).toArray⟩ W (by rw [size_of, List.length_take]; omega)
    rw [bl_of] at this
    exact this
  have hrl : ∀ i : Nat, (readL ((c :: t).take i)).length ≤ 1000000 := fun i => by
    have := readL_len _ ((c :: t).take i) (Nat.le_refl _)
    rw [List.length_take] at this
    omega
  have HR := Lib.hid hR
  have HRL := Lib.hid hrl
  rcases txt_index (c :: t) with ⟨hi, h1, h2⟩ | ⟨i, hi, hil, h1, h2⟩
  · rw [hi] at HF
    rw [h1, h2, hs0]
    have hRR := HR.out (c :: t).length (Nat.le_refl _)
    have hrr := HRL.out (c :: t).length
    rw [List.take_length] at hRR hrr
    have hx3 : s0.extract 0 s0.size = ⟨(c :: t).toArray⟩ := by rw [hx1, hz0, List.take_length]
    have hx4 : s0.extract s0.size s0.size = ⟨#[]⟩ := by rw [hx2, hz0, List.drop_length]
    have HRR := Lib.hid hRR
    have HX := Lib.hid (And.intro hx3 hx4)
    have HS0 := Lib.hid hs0
    rw [hs0] at HRR
    clear hx1 hx2 hx3 hx4 hRR HR HRL hi h1 h2 hz0 hs0 h60 hR hrl hl
    generalize readL (c :: t) = rd at *
    have hxa := HX.out.1
    have hxb := HX.out.2
    rw [HS0.out] at hxa
    clear HX
    go_enter Try.func27, Try.ntmps27
    go_wp2_with fail
    (with_reducible refine (HF.out _).mono ?_)
    rintro e w1 ⟨rfl, rfl⟩
    go_wp2_with fail
    refine wp_region_seqD (Below w1.heap.size) (Below.refl w1.heap.size) (fun _ _ _ h1 h2 => h1.trans h2) (by kernel_rfl) [(0, true), (1, true), (2, true), (6, true), (7, true), (8, true), (3, false), (4, true), (5, false), (9, true), (10, true), (11, true)] (by kernel_rfl) rfl (by kernel_rfl) ?_
    have hd0 := (Below.refl w1.heap.size w1).drew
    have hdz : w1.drew.heap.size = w1.heap.size := rfl
    generalize w1.drew = w2 at *
    iterate 6 (refine wpSeqR_take (o := ⟨_, _, _, _, _, _⟩) (v := ?_) rfl rfl ?_ ?_; rotate_left; (focus (intro W hW; go_simp; first | done | with_reducible rfl)); simp only [Act.put, List.setIfInBounds_toArray, List.set_cons_zero, List.set_cons_succ])
    refine wpSeqR_exec (o := ⟨_, _, _, _, _, _⟩) rfl rfl (fun K hK => ?_)
    go_simp
    refine (HRR.out w2).mono ?_
    rintro e w3 ⟨rfl, hb3⟩
    refine hK _ _ (hb3.mono (by omega)) ?_
    clear hK K
    have B3 := hd0.trans (hb3.mono (by omega))
    have hz3 := hb3.size
    iterate 1 (refine wpSeqR_take (o := ⟨_, _, _, _, _, _⟩) (v := ?_) rfl rfl ?_ ?_; rotate_left; (focus (intro W hW; go_simp; first | done | with_reducible rfl)); simp only [Act.put, List.setIfInBounds_toArray, List.set_cons_zero, List.set_cons_succ])
    refine wpSeqR_exec (o := ⟨_, _, _, _, _, _⟩) rfl rfl (fun K hK => ?_)
    go_simp
    refine hK _ _ ((Below.refl _ _).alloc (by omega) _) ?_
    clear hK K
    iterate 3 (refine wpSeqR_take (o := ⟨_, _, _, _, _, _⟩) (v := ?_) rfl rfl ?_ ?_; rotate_left; (focus (intro W hW; go_simp; first | done | with_reducible rfl)); simp only [Act.put, List.setIfInBounds_toArray, List.set_cons_zero, List.set_cons_succ])
    refine wpSeqR_nil ?_
    go_wp2_with fail
    go_ret3
    exact ⟨B3.alloc (by omega) _, _, _, _, rfl, xt_lit (by omega) (xt_plain 3 [] rd (by omega) (by simp) (by omega)), Nat.le_refl _, by omega⟩
  · rw [hi] at HF
    rw [h1, h2, hs0]
    have HRR := Lib.hid (HR.out i hil)
    have hrr := HRL.out i
    have hi2 : i ≤ s0.size := by omega
    clear HR HRL hi h1 h2 hz0 hs0 h60 hR hrl hl
    have hxa := hx1 i
    have hxb := hx2 i
    clear hx1 hx2
    generalize readL ((c :: t).take i) = rd at *
    generalize (c :: t).take i = tk at *
    generalize (c :: t).drop i = dr at *
    go_enter Try.func27, Try.ntmps27
    go_wp2_with fail
    (with_reducible refine (HF.out _).mono ?_)
    rintro e w1 ⟨rfl, rfl⟩
    go_wp2_with fail
    refine wp_region_seqD (Below w1.heap.size) (Below.refl w1.heap.size) (fun _ _ _ h1 h2 => h1.trans h2) (by kernel_rfl) [(0, true), (1, true), (2, true), (6, true), (7, true), (8, true), (3, false), (4, true), (5, false), (9, true), (10, true), (11, true)] (by kernel_rfl) rfl (by kernel_rfl) ?_
    have hd0 := (Below.refl w1.heap.size w1).drew
    have hdz : w1.drew.heap.size = w1.heap.size := rfl
    generalize w1.drew = w2 at *
    iterate 6 (refine wpSeqR_take (o := ⟨_, _, _, _, _, _⟩) (v := ?_) rfl rfl ?_ ?_; rotate_left; (focus (intro W hW; go_simp; first | done | with_reducible rfl)); simp only [Act.put, List.setIfInBounds_toArray, List.set_cons_zero, List.set_cons_succ])
    refine wpSeqR_exec (o := ⟨_, _, _, _, _, _⟩) rfl rfl (fun K hK => ?_)
    go_simp
    refine (HRR.out w2).mono ?_
    rintro e w3 ⟨rfl, hb3⟩
    refine hK _ _ (hb3.mono (by omega)) ?_
    clear hK K
    have B3 := hd0.trans (hb3.mono (by omega))
    have hz3 := hb3.size
    iterate 1 (refine wpSeqR_take (o := ⟨_, _, _, _, _, _⟩) (v := ?_) rfl rfl ?_ ?_; rotate_left; (focus (intro W hW; go_simp; first | done | with_reducible rfl)); simp only [Act.put, List.setIfInBounds_toArray, List.set_cons_zero, List.set_cons_succ])
    refine wpSeqR_exec (o := ⟨_, _, _, _, _, _⟩) rfl rfl (fun K hK => ?_)
    go_simp
    refine hK _ _ ((Below.refl _ _).alloc (by omega) _) ?_
    clear hK K
    iterate 3 (refine wpSeqR_take (o := ⟨_, _, _, _, _, _⟩) (v := ?_) rfl rfl ?_ ?_; rotate_left; (focus (intro W hW; go_simp; first | done | with_reducible rfl)); simp only [Act.put, List.setIfInBounds_toArray, List.set_cons_zero, List.set_cons_succ])
    refine wpSeqR_nil ?_
    go_wp2_with fail
    go_ret3
    exact ⟨B3.alloc (by omega) _, _, _, _, rfl, xt_lit (by omega) (xt_plain 3 [] rd (by omega) (by simp) (by omega)), Nat.le_refl _, by omega⟩
set_option maxHeartbeats 8000000 in
theorem refPart8_0 (t : List UInt8) (w : World) (hl : (60 :: t : List UInt8).length ≤ 100000) (p0 : Lib.hasPrefix (60 :: t) [60, 33, 45, 45] = true) : Calls Try.prog 27 #[.string ⟨(60 :: t : List UInt8).toArray⟩] w (RetTS w (partD (60 :: t))) := by
  rw [partD_0 p0]
  obtain ⟨s0, hs0⟩ : ∃ s0, ByteArray.mk (60 :: t).toArray = s0 := ⟨_, rfl⟩
  have hz0 : s0.size = (60 :: t).length := by rw [← hs0, size_of]
  have hp0 : 0 < s0.size := by rw [hz0]; simp
  have hg0 : s0[0] = 60 := by subst hs0; rfl
  have hzz : s0.size ≤ 100000 := by omega
  have hpl := has_len p0
  have HU := Lib.hid (fun W => refUpto8_any (60 :: t) [60, 33, 45, 45] [45, 45, 62] W (by omega) hpl (by simp) (by simp))
  rw [hs0] at HU
  simp only [show ([60, 33, 45, 45] : List UInt8).length = 4 from rfl] at HU
  have hal := fun a b => uptoD_len (l := (60 :: t : List UInt8).drop 4) (sep := [45, 45, 62]) (a := a) (b := b)
  rw [List.length_drop] at hal
  have H0 := Lib.hid (fun W => refHas8_any (60 :: t) [60, 33, 45, 45] W (by omega) (by simp))
  rw [p0, hs0] at H0
  generalize uptoD ((60 :: t).drop 4) [45, 45, 62] = o at *
  rw [hs0]
  clear hs0 hz0 hpl p0
  cases o with
  | none =>
    simp only [upV] at HU
    go_enter Try.func27, Try.ntmps27
    go_wp2_with fail
    (with_reducible refine (H0.out _).mono ?_)
    rintro e w1 ⟨rfl, rfl⟩
    go_wp2_with fail
    (with_reducible refine (HU.out _).mono ?_)
    rintro e w1 ⟨rfl, hd⟩
    go_wp2_with fail
    go_ret3
    exact ⟨bel_of_drew hd, none, 0, 0, _, rfl⟩
  | some ab =>
    obtain ⟨a, b⟩ := ab
    simp only [upV] at HU
    go_enter Try.func27, Try.ntmps27
    go_wp2_with fail
    (with_reducible refine (H0.out _).mono ?_)
    rintro e w1 ⟨rfl, rfl⟩
    go_wp2_with fail
    (with_reducible refine (HU.out _).mono ?_)
    rintro e w1 ⟨rfl, hd⟩
    go_wp2_with fail
    go_ret3
    exact ⟨bel_of_drew hd, none, 0, 0, rfl, RwA.nil _, Nat.le_refl _, by omega⟩
set_option maxHeartbeats 8000000 in
theorem refPart8_1 (t : List UInt8) (w : World) (hl : (60 :: t : List UInt8).length ≤ 100000) (p0 : Lib.hasPrefix (60 :: t) [60, 33, 45, 45] = false) (p1 : Lib.hasPrefix (60 :: t) [60, 63] = true) : Calls Try.prog 27 #[.string ⟨(60 :: t : List UInt8).toArray⟩] w (RetTS w (partD (60 :: t))) := by
  rw [partD_1 p0 p1]
  obtain ⟨s0, hs0⟩ : ∃ s0, ByteArray.mk (60 :: t).toArray = s0 := ⟨_, rfl⟩
  have hz0 : s0.size = (60 :: t).length := by rw [← hs0, size_of]
  have hp0 : 0 < s0.size := by rw [hz0]; simp
  have hg0 : s0[0] = 60 := by subst hs0; rfl
  have hzz : s0.size ≤ 100000 := by omega
  have hpl := has_len p1
  have HU := Lib.hid (fun W => refUpto8_any (60 :: t) [60, 63] [63, 62] W (by omega) hpl (by simp) (by simp))
  rw [hs0] at HU
  simp only [show ([60, 63] : List UInt8).length = 2 from rfl] at HU
  have hal := fun a b => uptoD_len (l := (60 :: t : List UInt8).drop 2) (sep := [63, 62]) (a := a) (b := b)
  rw [List.length_drop] at hal
  have H0 := Lib.hid (fun W => refHas8_any (60 :: t) [60, 33, 45, 45] W (by omega) (by simp))
  rw [p0, hs0] at H0
  have H1 := Lib.hid (fun W => refHas8_any (60 :: t) [60, 63] W (by omega) (by simp))
  rw [p1, hs0] at H1
  generalize uptoD ((60 :: t).drop 2) [63, 62] = o at *
  rw [hs0]
  clear hs0 hz0 hpl p0 p1
  cases o with
  | none =>
    simp only [upV] at HU
    go_enter Try.func27, Try.ntmps27
    go_wp2_with fail
    (with_reducible refine (H0.out _).mono ?_)
    rintro e w1 ⟨rfl, rfl⟩
    go_wp2_with fail
    (with_reducible refine (H1.out _).mono ?_)
    rintro e w1 ⟨rfl, rfl⟩
    go_wp2_with fail
    (with_reducible refine (HU.out _).mono ?_)
    rintro e w1 ⟨rfl, hd⟩
    go_wp2_with fail
    go_ret3
    exact ⟨bel_of_drew hd, none, 0, 0, _, rfl⟩
  | some ab =>
    obtain ⟨a, b⟩ := ab
    simp only [upV] at HU
    go_enter Try.func27, Try.ntmps27
    go_wp2_with fail
    (with_reducible refine (H0.out _).mono ?_)
    rintro e w1 ⟨rfl, rfl⟩
    go_wp2_with fail
    (with_reducible refine (H1.out _).mono ?_)
    rintro e w1 ⟨rfl, rfl⟩
    go_wp2_with fail
    (with_reducible refine (HU.out _).mono ?_)
    rintro e w1 ⟨rfl, hd⟩
    go_wp2_with fail
    go_ret3
    exact ⟨bel_of_drew hd, none, 0, 0, rfl, RwA.nil _, Nat.le_refl _, by omega⟩
set_option maxHeartbeats 8000000 in
theorem refPart8_2 (t : List UInt8) (w : World) (hl : (60 :: t : List UInt8).length ≤ 100000) (p0 : Lib.hasPrefix (60 :: t) [60, 33, 45, 45] = false) (p1 : Lib.hasPrefix (60 :: t) [60, 63] = false) (p2 : Lib.hasPrefix (60 :: t) [60, 33, 68, 79, 67, 84, 89, 80, 69] = true) : Calls Try.prog 27 #[.string ⟨(60 :: t : List UInt8).toArray⟩] w (RetTS w (partD (60 :: t))) := by
  rw [partD_2 p0 p1 p2]
  obtain ⟨s0, hs0⟩ : ∃ s0, ByteArray.mk (60 :: t).toArray = s0 := ⟨_, rfl⟩
  have hz0 : s0.size = (60 :: t).length := by rw [← hs0, size_of]
  have hp0 : 0 < s0.size := by rw [hz0]; simp
  have hg0 : s0[0] = 60 := by subst hs0; rfl
  have hzz : s0.size ≤ 100000 := by omega
  have hpl := has_len p2
  have HU := Lib.hid (fun W => refUpto8_any (60 :: t) [60, 33, 68, 79, 67, 84, 89, 80, 69] [62] W (by omega) hpl (by simp) (by simp))
  rw [hs0] at HU
  simp only [show ([60, 33, 68, 79, 67, 84, 89, 80, 69] : List UInt8).length = 9 from rfl] at HU
  have hal := fun a b => uptoD_len (l := (60 :: t : List UInt8).drop 9) (sep := [62]) (a := a) (b := b)
  rw [List.length_drop] at hal
  have H0 := Lib.hid (fun W => refHas8_any (60 :: t) [60, 33, 45, 45] W (by omega) (by simp))
  rw [p0, hs0] at H0
  have H1 := Lib.hid (fun W => refHas8_any (60 :: t) [60, 63] W (by omega) (by simp))
  rw [p1, hs0] at H1
  have H2 := Lib.hid (fun W => refHas8_any (60 :: t) [60, 33, 68, 79, 67, 84, 89, 80, 69] W (by omega) (by simp))
  rw [p2, hs0] at H2
  generalize uptoD ((60 :: t).drop 9) [62] = o at *
  rw [hs0]
  clear hs0 hz0 hpl p0 p1 p2
  cases o with
  | none =>
    simp only [upV] at HU
    go_enter Try.func27, Try.ntmps27
    go_wp2_with fail
    (with_reducible refine (H0.out _).mono ?_)
    rintro e w1 ⟨rfl, rfl⟩
    go_wp2_with fail
    (with_reducible refine (H1.out _).mono ?_)
    rintro e w1 ⟨rfl, rfl⟩
    go_wp2_with fail
    (with_reducible refine (H2.out _).mono ?_)
    rintro e w1 ⟨rfl, rfl⟩
    go_wp2_with fail
    (with_reducible refine (HU.out _).mono ?_)
    rintro e w1 ⟨rfl, hd⟩
    go_wp2_with fail
    go_ret3
    exact ⟨bel_of_drew hd, none, 0, 0, _, rfl⟩
  | some ab =>
    obtain ⟨a, b⟩ := ab
    simp only [upV] at HU
    have hab := hal a b rfl
    simp only [List.length_cons] at hl hab
    have HF := Lib.hid (fun W => refFind8_any a [91] W (by omega) (by simp) (by simp))
    have hin := ib_mem 91 a
    rw [← Lib.index_one] at hin
    clear hal hab hl
    by_cases hm : (91 : UInt8) ∈ a
    · rw [show decide ((91 : UInt8) ∈ a) = true from by simpa using hm] at hin
      simp only [if_pos hm]
      generalize Lib.index a [91] = z at *
      have hz : decide (z < 0) = false := by simp at hin ⊢; omega
      have hz9 : ¬ z < 0 := by simpa using hz
      clear hm
      go_enter Try.func27, Try.ntmps27
      go_wp2_with fail
      (with_reducible refine (H0.out _).mono ?_)
      rintro e w1 ⟨rfl, rfl⟩
      go_wp2_with fail
      (with_reducible refine (H1.out _).mono ?_)
      rintro e w1 ⟨rfl, rfl⟩
      go_wp2_with fail
      (with_reducible refine (H2.out _).mono ?_)
      rintro e w1 ⟨rfl, rfl⟩
      go_wp2_with fail
      (with_reducible refine (HU.out _).mono ?_)
      rintro e w1 ⟨rfl, hd⟩
      go_wp2_with fail
      (with_reducible refine (HF.out _).mono ?_)
      rintro e w2 ⟨rfl, rfl⟩
      go_wp2_with fail
      go_ret3
      exact ⟨bel_of_drew hd, none, 0, 0, _, rfl⟩
    · rw [show decide ((91 : UInt8) ∈ a) = false from by simpa using hm] at hin
      simp only [if_neg hm]
      generalize Lib.index a [91] = z at *
      have hz : decide (z < 0) = true := by simp at hin ⊢; omega
      have hz9 : z < 0 := by simpa using hz
      clear hm
      go_enter Try.func27, Try.ntmps27
      go_wp2_with fail
      (with_reducible refine (H0.out _).mono ?_)
      rintro e w1 ⟨rfl, rfl⟩
      go_wp2_with fail
      (with_reducible refine (H1.out _).mono ?_)
      rintro e w1 ⟨rfl, rfl⟩
      go_wp2_with fail
      (with_reducible refine (H2.out _).mono ?_)
      rintro e w1 ⟨rfl, rfl⟩
      go_wp2_with fail
      (with_reducible refine (HU.out _).mono ?_)
      rintro e w1 ⟨rfl, hd⟩
      go_wp2_with fail
      (with_reducible refine (HF.out _).mono ?_)
      rintro e w2 ⟨rfl, rfl⟩
      go_wp2_with fail
      go_ret3
      exact ⟨bel_of_drew hd, none, 0, 0, rfl, RwA.nil _, Nat.le_refl _, by omega⟩
set_option maxHeartbeats 8000000 in
theorem refPart8_3 (t : List UInt8) (w : World) (hl : (60 :: t : List UInt8).length ≤ 100000) (p0 : Lib.hasPrefix (60 :: t) [60, 33, 45, 45] = false) (p1 : Lib.hasPrefix (60 :: t) [60, 63] = false) (p2 : Lib.hasPrefix (60 :: t) [60, 33, 68, 79, 67, 84, 89, 80, 69] = false) (p3 : Lib.hasPrefix (60 :: t) [60, 33, 91, 67, 68, 65, 84, 65, 91] = true) : Calls Try.prog 27 #[.string ⟨(60 :: t : List UInt8).toArray⟩] w (RetTS w (partD (60 :: t))) := by
  rw [partD_3 p0 p1 p2 p3]
  obtain ⟨s0, hs0⟩ : ∃ s0, ByteArray.mk (60 :: t).toArray = s0 := ⟨_, rfl⟩
  have hz0 : s0.size = (60 :: t).length := by rw [← hs0, size_of]
  have hp0 : 0 < s0.size := by rw [hz0]; simp
  have hg0 : s0[0] = 60 := by subst hs0; rfl
  have hzz : s0.size ≤ 100000 := by omega
  have hpl := has_len p3
  have HU := Lib.hid (fun W => refUpto8_any (60 :: t) [60, 33, 91, 67, 68, 65, 84, 65, 91] [93, 93, 62] W (by omega) hpl (by simp) (by simp))
  rw [hs0] at HU
  simp only [show ([60, 33, 91, 67, 68, 65, 84, 65, 91] : List UInt8).length = 9 from rfl] at HU
  have hal := fun a b => uptoD_len (l := (60 :: t : List UInt8).drop 9) (sep := [93, 93, 62]) (a := a) (b := b)
  rw [List.length_drop] at hal
  have H0 := Lib.hid (fun W => refHas8_any (60 :: t) [60, 33, 45, 45] W (by omega) (by simp))
  rw [p0, hs0] at H0
  have H1 := Lib.hid (fun W => refHas8_any (60 :: t) [60, 63] W (by omega) (by simp))
  rw [p1, hs0] at H1
  have H2 := Lib.hid (fun W => refHas8_any (60 :: t) [60, 33, 68, 79, 67, 84, 89, 80, 69] W (by omega) (by simp))
  rw [p2, hs0] at H2
  have H3 := Lib.hid (fun W => refHas8_any (60 :: t) [60, 33, 91, 67, 68, 65, 84, 65, 91] W (by omega) (by simp))
  rw [p3, hs0] at H3
  generalize uptoD ((60 :: t).drop 9) [93, 93, 62] = o at *
  rw [hs0]
  clear hs0 hz0 hpl p0 p1 p2 p3
  cases o with
  | none =>
    simp only [upV] at HU
    go_enter Try.func27, Try.ntmps27
    go_wp2_with fail
    (with_reducible refine (H0.out _).mono ?_)
    rintro e w1 ⟨rfl, rfl⟩
    go_wp2_with fail
    (with_reducible refine (H1.out _).mono ?_)
    rintro e w1 ⟨rfl, rfl⟩
    go_wp2_with fail
    (with_reducible refine (H2.out _).mono ?_)
    rintro e w1 ⟨rfl, rfl⟩
    go_wp2_with fail
    (with_reducible refine (H3.out _).mono ?_)
    rintro e w1 ⟨rfl, rfl⟩
    go_wp2_with fail
    (with_reducible refine (HU.out _).mono ?_)
    rintro e w1 ⟨rfl, hd⟩
    go_wp2_with fail
    go_ret3
    exact ⟨bel_alloc (bel_of_drew hd) _, _, _, _, _, rfl⟩
  | some ab =>
    obtain ⟨a, b⟩ := ab
    simp only [upV] at HU
    have hab := hal a b rfl
    simp only [List.length_cons] at hl hab
    go_enter Try.func27, Try.ntmps27
    go_wp2_with fail
    (with_reducible refine (H0.out _).mono ?_)
    rintro e w1 ⟨rfl, rfl⟩
    go_wp2_with fail
    (with_reducible refine (H1.out _).mono ?_)
    rintro e w1 ⟨rfl, rfl⟩
    go_wp2_with fail
    (with_reducible refine (H2.out _).mono ?_)
    rintro e w1 ⟨rfl, rfl⟩
    go_wp2_with fail
    (with_reducible refine (H3.out _).mono ?_)
    rintro e w1 ⟨rfl, rfl⟩
    go_wp2_with fail
    (with_reducible refine (HU.out _).mono ?_)
    rintro e w1 ⟨rfl, hd⟩
    have hb1 := bel_of_drew hd
    go_wp2_with fail
    go_ret3
    exact ⟨bel_alloc hb1 _, _, _, _, rfl, xt_lit hb1.size (xt_plain 3 [] a (by omega) (by simp) (by omega)), Nat.le_refl _, by omega⟩
set_option maxHeartbeats 8000000 in
theorem refPart8_4 (t : List UInt8) (w : World) (hl : (60 :: t : List UInt8).length ≤ 100000) (p0 : Lib.hasPrefix (60 :: t) [60, 33, 45, 45] = false) (p1 : Lib.hasPrefix (60 :: t) [60, 63] = false) (p2 : Lib.hasPrefix (60 :: t) [60, 33, 68, 79, 67, 84, 89, 80, 69] = false) (p3 : Lib.hasPrefix (60 :: t) [60, 33, 91, 67, 68, 65, 84, 65, 91] = false) (p4 : Lib.hasPrefix (60 :: t) [60, 47] = true) : Calls Try.prog 27 #[.string ⟨(60 :: t : List UInt8).toArray⟩] w (RetTS w (partD (60 :: t))) := by
  rw [partD_4 p0 p1 p2 p3 p4]
  obtain ⟨s0, hs0⟩ : ∃ s0, ByteArray.mk (60 :: t).toArray = s0 := ⟨_, rfl⟩
  have hz0 : s0.size = (60 :: t).length := by rw [← hs0, size_of]
  have hp0 : 0 < s0.size := by rw [hz0]; simp
  have hg0 : s0[0] = 60 := by subst hs0; rfl
  have hzz : s0.size ≤ 100000 := by omega
  have hpl := has_len p4
  simp at hpl
  have hx2 : s0.extract 2 s0.size = ⟨((60 :: t : List UInt8).drop 2).toArray⟩ := by rw [hz0, ← hs0]; exact xstr_drop (60 :: t) 2
  have hp2 : 2 ≤ s0.size := by rw [hz0]; simp; omega
  simp only [List.length_cons] at hl
  have HN := Lib.hid (fun W => refName8_any ((60 :: t : List UInt8).drop 2) W (by rw [List.length_drop, List.length_cons]; omega))
  have hdd : ((60 :: t : List UInt8).drop 2).length ≤ 100000 := by rw [List.length_drop, List.length_cons]; omega
  have H0 := Lib.hid (fun W => refHas8_any (60 :: t) [60, 33, 45, 45] W (by simp only [List.length_cons]; omega) (by simp))
  rw [p0, hs0] at H0
  have H1 := Lib.hid (fun W => refHas8_any (60 :: t) [60, 63] W (by simp only [List.length_cons]; omega) (by simp))
  rw [p1, hs0] at H1
  have H2 := Lib.hid (fun W => refHas8_any (60 :: t) [60, 33, 68, 79, 67, 84, 89, 80, 69] W (by simp only [List.length_cons]; omega) (by simp))
  rw [p2, hs0] at H2
  have H3 := Lib.hid (fun W => refHas8_any (60 :: t) [60, 33, 91, 67, 68, 65, 84, 65, 91] W (by simp only [List.length_cons]; omega) (by simp))
  rw [p3, hs0] at H3
  have H4 := Lib.hid (fun W => refHas8_any (60 :: t) [60, 47] W (by simp only [List.length_cons]; omega) (by simp))
  rw [p4, hs0] at H4
  rw [hs0]
  clear hs0 hz0 p0 p1 p2 p3 p4 hpl
  generalize (60 :: t : List UInt8).drop 2 = d at *
  unfold closeD
  cases hn : nameD d with
  | none =>
    have hr : nameR d = ([], d) := by unfold nameR; rw [hn]
    rw [hr] at HN
    simp only at HN ⊢
    have HB := Lib.hid (fun W => refBlanks8_any d W (by omega))
    generalize d.dropWhile blkB = e1 at *
    clear hn hr
    go_enter Try.func27, Try.ntmps27
    go_wp2_with fail
    (with_reducible refine (H0.out _).mono ?_)
    rintro e w1 ⟨rfl, rfl⟩
    go_wp2_with fail
    (with_reducible refine (H1.out _).mono ?_)
    rintro e w1 ⟨rfl, rfl⟩
    go_wp2_with fail
    (with_reducible refine (H2.out _).mono ?_)
    rintro e w1 ⟨rfl, rfl⟩
    go_wp2_with fail
    (with_reducible refine (H3.out _).mono ?_)
    rintro e w1 ⟨rfl, rfl⟩
    go_wp2_with fail
    (with_reducible refine (H4.out _).mono ?_)
    rintro e w1 ⟨rfl, rfl⟩
    go_wp2_with fail
    (with_reducible refine (HN.out _).mono ?_)
    rintro e w1 ⟨rfl, hb⟩
    go_wp2_with fail
    (with_reducible refine (HB.out _).mono ?_)
    rintro e w2 ⟨rfl, rfl⟩
    go_wp2_with fail
    go_ret3
    exact ⟨hb, none, 0, 0, _, rfl⟩
  | some x =>
    obtain ⟨n, r⟩ := x
    have hr : nameR d = (n, r) := by unfold nameR; rw [hn]
    have hnl := nameD_len hn
    have hn0 := hnl.2.1
    have hn1 : n.length ≤ 100000 := by omega
    have hrl : r.length ≤ 100000 := by omega
    have hne1 : n.isEmpty = false := by cases n with | nil => simp at hn0 | cons a b => rfl
    have hne2 : ¬ n = [] := by simpa using hne1
    have hne3 : ((⟨n.toArray⟩ : ByteArray) == ⟨#[]⟩) = false := by cases n with | nil => simp at hn0 | cons a b => rfl
    rw [hr] at HN
    simp only at HN ⊢
    have HB := Lib.hid (fun W => refBlanks8_any r W (by omega))
    have hel := dropW_len blkB r
    clear hn hr hnl hn0
    cases hd : r.dropWhile blkB with
    | nil =>
      rw [hd] at HB
      have HS := Lib.hid (fun W => refHas8_any [] [62] W (by simp) (by simp))
      simp only
      clear hd hel
      go_enter Try.func27, Try.ntmps27
      go_wp2_with fail
      (with_reducible refine (H0.out _).mono ?_)
      rintro e w1 ⟨rfl, rfl⟩
      go_wp2_with fail
      (with_reducible refine (H1.out _).mono ?_)
      rintro e w1 ⟨rfl, rfl⟩
      go_wp2_with fail
      (with_reducible refine (H2.out _).mono ?_)
      rintro e w1 ⟨rfl, rfl⟩
      go_wp2_with fail
      (with_reducible refine (H3.out _).mono ?_)
      rintro e w1 ⟨rfl, rfl⟩
      go_wp2_with fail
      (with_reducible refine (H4.out _).mono ?_)
      rintro e w1 ⟨rfl, rfl⟩
      go_wp2_with fail
      (with_reducible refine (HN.out _).mono ?_)
      rintro e w1 ⟨rfl, hb⟩
      go_wp2_with fail
      (with_reducible refine (HB.out _).mono ?_)
      rintro e w2 ⟨rfl, rfl⟩
      go_wp2_with fail
      (with_reducible refine (HS.out _).mono ?_)
      rintro e w2 ⟨rfl, rfl⟩
      go_wp2_with fail
      go_ret3
      exact ⟨hb, none, 0, 0, _, rfl⟩
    | cons c u =>
      rw [hd] at HB hel
      simp only [List.length_cons] at hel
      have HS := Lib.hid (fun W => refHas8_any (c :: u) [62] W (by simp only [List.length_cons]; omega) (by simp))
      rw [has_c1] at HS
      obtain ⟨s1, hs1⟩ : ∃ s1, ByteArray.mk (c :: u).toArray = s1 := ⟨_, rfl⟩
      have hz1 : s1.size = u.length + 1 := by rw [← hs1, size_of]; rfl
      have hx3 : s1.extract 1 s1.size = ⟨u.toArray⟩ := by rw [hz1, ← hs1]; exact xstr_drop (c :: u) 1
      have hp3 : 1 ≤ s1.size := by omega
      have hp4 : s1.size ≤ 1000000 := by omega
      unfold RetStr at HB
      rw [hs1] at HS HB
      simp only
      clear hd hs1 hz1
      by_cases h62 : c = 62
      · subst h62
        rw [show ((62 : UInt8) == 62) = true from rfl] at HS
        rw [if_pos rfl]
        go_enter Try.func27, Try.ntmps27
        go_wp2_with fail
        (with_reducible refine (H0.out _).mono ?_)
        rintro e w1 ⟨rfl, rfl⟩
        go_wp2_with fail
        (with_reducible refine (H1.out _).mono ?_)
        rintro e w1 ⟨rfl, rfl⟩
        go_wp2_with fail
        (with_reducible refine (H2.out _).mono ?_)
        rintro e w1 ⟨rfl, rfl⟩
        go_wp2_with fail
        (with_reducible refine (H3.out _).mono ?_)
        rintro e w1 ⟨rfl, rfl⟩
        go_wp2_with fail
        (with_reducible refine (H4.out _).mono ?_)
        rintro e w1 ⟨rfl, rfl⟩
        go_wp2_with fail
        (with_reducible refine (HN.out _).mono ?_)
        rintro e w1 ⟨rfl, hb⟩
        go_wp2_with fail
        (with_reducible refine (HB.out _).mono ?_)
        rintro e w2 ⟨rfl, rfl⟩
        go_wp2_with fail
        (with_reducible refine (HS.out _).mono ?_)
        rintro e w2 ⟨rfl, rfl⟩
        go_wp2_with fail
        go_region
        go_wp2_with fail
        go_ret3
        exact ⟨(bel_alloc hb _).drew, _, _, _, rfl, RwA.bel xtP (xt_lit hb.size (xt_plain 2 n [] (by omega) (by omega) (by simp))) ((Below.refl _ _).drew), Nat.le_refl _, by omega⟩
      · have hq : ((62 : UInt8) == c) = false := by simpa using Ne.symm h62
        rw [hq] at HS
        rw [if_neg h62]
        clear h62 hq
        go_enter Try.func27, Try.ntmps27
        go_wp2_with fail
        (with_reducible refine (H0.out _).mono ?_)
        rintro e w1 ⟨rfl, rfl⟩
        go_wp2_with fail
        (with_reducible refine (H1.out _).mono ?_)
        rintro e w1 ⟨rfl, rfl⟩
        go_wp2_with fail
        (with_reducible refine (H2.out _).mono ?_)
        rintro e w1 ⟨rfl, rfl⟩
        go_wp2_with fail
        (with_reducible refine (H3.out _).mono ?_)
        rintro e w1 ⟨rfl, rfl⟩
        go_wp2_with fail
        (with_reducible refine (H4.out _).mono ?_)
        rintro e w1 ⟨rfl, rfl⟩
        go_wp2_with fail
        (with_reducible refine (HN.out _).mono ?_)
        rintro e w1 ⟨rfl, hb⟩
        go_wp2_with fail
        (with_reducible refine (HB.out _).mono ?_)
        rintro e w2 ⟨rfl, rfl⟩
        go_wp2_with fail
        (with_reducible refine (HS.out _).mono ?_)
        rintro e w2 ⟨rfl, rfl⟩
        go_wp2_with fail
        go_ret3
        exact ⟨hb, none, 0, 0, _, rfl⟩
set_option maxHeartbeats 8000000 in
theorem refPart8_5 (t : List UInt8) (w : World) (hl : (60 :: t : List UInt8).length ≤ 100000) (p0 : Lib.hasPrefix (60 :: t) [60, 33, 45, 45] = false) (p1 : Lib.hasPrefix (60 :: t) [60, 63] = false) (p2 : Lib.hasPrefix (60 :: t) [60, 33, 68, 79, 67, 84, 89, 80, 69] = false) (p3 : Lib.hasPrefix (60 :: t) [60, 33, 91, 67, 68, 65, 84, 65, 91] = false) (p4 : Lib.hasPrefix (60 :: t) [60, 47] = false) : Calls Try.prog 27 #[.string ⟨(60 :: t : List UInt8).toArray⟩] w (RetTS w (partD (60 :: t))) := by
  rw [partD_open p0 p1 p2 p3 p4]
  obtain ⟨s0, hs0⟩ : ∃ s0, ByteArray.mk (60 :: t).toArray = s0 := ⟨_, rfl⟩
  have hz0 : s0.size = (60 :: t).length := by rw [← hs0, size_of]
  have hp0 : 0 < s0.size := by rw [hz0]; simp
  have hg0 : s0[0] = 60 := by subst hs0; rfl
  have hzz : s0.size ≤ 100000 := by omega
  have hx1 : s0.extract 1 s0.size = ⟨t.toArray⟩ := by rw [hz0, ← hs0]; exact xstr_drop (60 :: t) 1
  simp only [List.length_cons] at hl
  have HO := Lib.hid (fun W => refOpen8_any t W (by omega))
  have H0 := Lib.hid (fun W => refHas8_any (60 :: t) [60, 33, 45, 45] W (by omega) (by simp))
  rw [p0, hs0] at H0
  have H1 := Lib.hid (fun W => refHas8_any (60 :: t) [60, 63] W (by omega) (by simp))
  rw [p1, hs0] at H1
  have H2 := Lib.hid (fun W => refHas8_any (60 :: t) [60, 33, 68, 79, 67, 84, 89, 80, 69] W (by omega) (by simp))
  rw [p2, hs0] at H2
  have H3 := Lib.hid (fun W => refHas8_any (60 :: t) [60, 33, 91, 67, 68, 65, 84, 65, 91] W (by omega) (by simp))
  rw [p3, hs0] at H3
  have H4 := Lib.hid (fun W => refHas8_any (60 :: t) [60, 47] W (by omega) (by simp))
  rw [p4, hs0] at H4
  have hp1 : 1 ≤ s0.size := by omega
  generalize openN t = o at *
  rw [hs0]
  clear hs0 hz0 p0 p1 p2 p3 p4
  go_enter Try.func27, Try.ntmps27
  go_wp2_with fail
  (with_reducible refine (H0.out _).mono ?_)
  rintro e w1 ⟨rfl, rfl⟩
  go_wp2_with fail
  (with_reducible refine (H1.out _).mono ?_)
  rintro e w1 ⟨rfl, rfl⟩
  go_wp2_with fail
  (with_reducible refine (H2.out _).mono ?_)
  rintro e w1 ⟨rfl, rfl⟩
  go_wp2_with fail
  (with_reducible refine (H3.out _).mono ?_)
  rintro e w1 ⟨rfl, rfl⟩
  go_wp2_with fail
  (with_reducible refine (H4.out _).mono ?_)
  rintro e w1 ⟨rfl, rfl⟩
  go_wp2_with fail
  (with_reducible refine (HO.out _).mono ?_)
  rintro e w1 ⟨hb, hh⟩
  cases o with
  | none =>
    obtain ⟨A, n, c, x, rfl⟩ := hh
    go_wp2_with fail
    go_ret3
    exact ⟨hb, A, n, c, x, rfl⟩
  | some x =>
    obtain ⟨ts, b⟩ := x
    obtain ⟨A, n, c, rfl, hA, hc, hm⟩ := hh
    have HA := Lib.hid hA
    clear hA
    go_wp2_with fail
    go_ret3
    exact ⟨hb, A, n, c, rfl, HA.out, hc, hm⟩
theorem refPart8_any (l : List UInt8) (w : World) (hl : l.length ≤ 100000) (h0 : 0 < l.length) : Calls Try.prog 27 #[.string ⟨l.toArray⟩] w (RetTS w (partD l)) := by
  cases l with
  | nil => simp at h0
  | cons c t =>
    by_cases h60 : c = 60
    · subst h60
      cases p0 : Lib.hasPrefix (60 :: t) [60, 33, 45, 45] with
      | true => exact refPart8_0 t w hl p0
      | false =>
        cases p1 : Lib.hasPrefix (60 :: t) [60, 63] with
        | true => exact refPart8_1 t w hl p0 p1
        | false =>
          cases p2 : Lib.hasPrefix (60 :: t) [60, 33, 68, 79, 67, 84, 89, 80, 69] with
          | true => exact refPart8_2 t w hl p0 p1 p2
          | false =>
            cases p3 : Lib.hasPrefix (60 :: t) [60, 33, 91, 67, 68, 65, 84, 65, 91] with
            | true => exact refPart8_3 t w hl p0 p1 p2 p3
            | false =>
              cases p4 : Lib.hasPrefix (60 :: t) [60, 47] with
              | true => exact refPart8_4 t w hl p0 p1 p2 p3 p4
              | false =>
                exact refPart8_5 t w hl p0 p1 p2 p3 p4
    · exact refPart8_txt c t w hl h60
end Go.Proofs.Ytjmmgekildlckaa
