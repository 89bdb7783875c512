/-
  The reference's Seal and Open; CrcSeals: the walk.
-/
import Derived.Test.YtgklbejnbplbgaaDoorCrcL
import Derived.Test.YtgklbejnbplbgaaDoorSeq
namespace Go.Proofs.YtgklbejnbplbgaaDoor
open Go.RowKit Go.Nst
set_option maxRecDepth 100000

theorem refSeal_any (A : Option Addr) (n c : Nat) (l : List UInt8) (w : World) (hn : n ≤ 140737488350000) (hB : Bs w A n l) :
    Calls Tryd.prog 19 #[.slice A n c] w (RetB w (sealL l)) := by
  have hO : Ow (w.alloc (.cells #[] 5)) w.heap.size (some ⟨w.heap.size, 0, none⟩) 0 0 [] := Ow.made w [] #[] rfl (by simp [maxLen]) (Nat.le_refl _)
  have hB1 := hB.alloc (.cells #[] 5)
  have hsl := crcSum_lt l
  have HE : Hid (l ++ wordL (crcSum l) = sealL l) := rfl
  have HS := Lib.hid (fun W (hb : Below w.heap.size w W) => refSum_any A n c l W (by omega) (hB.below hb))
  generalize crcSum l = s at *
  go_enter Tryd.func19, Tryd.ntmps19
  go_wp2_with (at_builtin; have _t := hO; refine wpList_appBg _ iBytes rfl rfl rfl hO rfl hB1 n l (by simp) rfl (by omega) (by simp) ?_; intro A' c' w' ho hb _ _; clear hO; have hb3 : Below w.heap.size w w' := ((Below.refl _ _).alloc (Nat.le_refl _) _).trans hb)
  refine (HS.out w' hb3).mono ?_
  rintro e w2 ⟨rfl, rfl⟩
  go_wp2_with fail
  refine (refWord_any s hsl w').mono ?_
  rintro e w2 ⟨A2, n2, c2, rfl, ho2, hb2⟩
  have hn2 : n2 = 4 := by have := ho2.len; simpa [wordL] using this.symm
  subst hn2
  have ho1 := ho.below hb2
  have hb4 := bel_step hb3 hb2
  go_wp2_with (at_builtin; refine wpList_appBg _ iBytes rfl rfl rfl ho1 rfl ho2.bs (n + 4) (sealL l) rfl HE.out (by omega) hb4.size ?_; intro A3 c3 w3 ho3 hb3' _ _)
  try go_ret
  exact RetB.of rfl ho3 (hb4.trans hb3')

theorem leN_word (d : List UInt8) (hd : d.length = 4) : wordL (leN d) = d := by
  match d, hd with
  | [a, b, c, e], _ =>
    have ha := a.toNat_lt
    have hb := b.toNat_lt
    have hc := c.toNat_lt
    have he := e.toNat_lt
    simp only [leN, wordL]
    have h1 : (a.toNat + 256 * (b.toNat + 256 * (c.toNat + 256 * (e.toNat + 256 * 0)))) % 256 = a.toNat := by omega
    have h2 : (a.toNat + 256 * (b.toNat + 256 * (c.toNat + 256 * (e.toNat + 256 * 0)))) / 256 % 256 = b.toNat := by omega
    have h3 : (a.toNat + 256 * (b.toNat + 256 * (c.toNat + 256 * (e.toNat + 256 * 0)))) / 65536 % 256 = c.toNat := by omega
    have h4 : (a.toNat + 256 * (b.toNat + 256 * (c.toNat + 256 * (e.toNat + 256 * 0)))) / 16777216 % 256 = e.toNat := by omega
    rw [h1, h2, h3, h4]
    simp
theorem word_leN (s : Nat) (hs : s < 4294967296) : leN (wordL s) = s := by
  simp only [wordL, leN, UInt8.toNat_ofNat']
  omega
theorem seal_iff (l : List UInt8) (m : Nat) (hl : l.length = m + 4) : sealL (l.take m) = l ↔ leN (l.drop m) = crcSum (l.take m) := by
  have hd : (l.drop m).length = 4 := by rw [List.length_drop]; omega
  constructor
  · intro h
    have : l.drop m = wordL (crcSum (l.take m)) := by
      have h2 : (sealL (l.take m)).drop m = l.drop m := by rw [h]
      rw [← h2]
      unfold sealL
      rw [List.drop_append_of_le_length (by simp; omega), List.drop_eq_nil_of_le (by simp; omega)]
      rfl
    rw [this, word_leN _ (crcSum_lt _)]
  · intro h
    unfold sealL
    rw [← h, leN_word _ hd, List.take_append_drop]

def RetP (w : World) (r : List UInt8 × Bool) (e : Ending) (w' : World) : Prop := ∃ A n c, e = .returned (.tuple #[.slice A n c, .bool r.2]) ∧ Bs w' A n r.1 ∧ Below w.heap.size w w' ∧ n ≤ c

set_option maxHeartbeats 1000000 in
theorem refOpen_any (A : Option Addr) (n c : Nat) (l : List UInt8) (w : World) (hn : n ≤ 140737488350000) (hB : Bs w A n l) (hnc : n ≤ c) :
    Calls Tryd.prog 18 #[.slice A n c] w (RetP w (openL l)) := by
  by_cases h4 : n < 4
  · have hd : decide ((n : Int) - 4 < 0) = true := by simp; omega
    have HO : Hid (openL l = ([], false)) := by
      unfold openL
      rw [if_pos (.inl (by rw [hB.len]; exact h4))]
      exact Lib.hid rfl
    go_enter Tryd.func18, Tryd.ntmps18
    go_wp2_with fail
    go_quiet (fail)
    go_wp2_with fail
    go_ret2
    exact ⟨none, 0, 0, by rw [HO.out]; rfl, by rw [HO.out]; exact Bs.nil, below_drewN (Below.refl _ _) nq, Nat.le_refl _⟩
  · obtain ⟨m, hm⟩ : ∃ m, n = m + 4 := ⟨n - 4, by omega⟩
    have e4 : (n : Int) - 4 = (m : Int) := by omega
    have hd : decide ((m : Int) < 0) = false := by simp
    have b1 : (m : Int) ≤ (c : Int) := by omega
    have b2 : (0 : Int) ≤ (m : Int) := by omega
    have b3 : (m : Int) ≤ (n : Int) := by omega
    have b4 : m ≤ n := by omega
    have HI := Lib.hid (seal_iff l m (by rw [hB.len]; exact hm))
    have HO : Hid (openL l = if leN (l.drop m) ≠ crcSum (l.take m) then ([], false) else (l.take m, true)) := openL_eq (by rw [hB.len]; exact hm)
    clear hm
    have hUp := hB.upto b4
    have HS := Lib.hid (fun W (hb : Below w.heap.size w W) => refSeal_any A m c (l.take m) W (by omega) (hUp.below hb))
    have ks := fun W (hb : Below w.heap.size w W) => (hB.below hb).str (P := Tryd.prog) 22 9 5 c Tryd.underlying22 Tryd.underlying5 Tryd.underlying9
    by_cases hx : sealL (l.take m) = l
    · have heq : (sealL (l.take m) == l) = true := by rw [beq_iff_eq]; exact hx
      have HO2 : Hid (openL l = (l.take m, true)) := by rw [HO.out, if_neg (by simpa using HI.out.1 hx)]; exact Lib.hid rfl
      clear hx HO
      generalize sealL (l.take m) = y at *
      go_enter Tryd.func18, Tryd.ntmps18
      go_wp2_with fail
      refine wp_region_seq (by kernel_rfl) [(0, true), (1, true), (2, true), (3, true), (4, true), (5, true), (8, true), (9, true), (6, false), (7, true), (10, true), (11, true)] (by kernel_rfl) rfl (by kernel_rfl) ?_
      intro w0 hb0
      have tr0 : ∀ W, Below w0.heap.size w0 W → Below w.heap.size w W := fun W h => bel_step hb0 h
      iterate 8 (refine wpSeq_take (o := ⟨_, _, _, _, _, _⟩) (v := ?_) rfl rfl ?_ ?_; rotate_left; (focus (intro W hW; go_simp; first | done | with_reducible rfl)); simp only [Act.put, List.setIfInBounds_toArray, List.set_cons_zero, List.set_cons_succ])
      refine wpSeq_exec (o := ⟨_, _, _, _, _, _⟩) rfl rfl (fun K hK => ?_)
      go_simp
      refine (HS.out w0 hb0).mono ?_
      rintro e w1 ⟨A1, n1, c1, rfl, ho1, hb1⟩
      go_wp2_with fail
      refine hK _ _ hb1 ?_
      clear hK K
      have S1 := bel_step hb0 hb1
      have ks1 := fun W (hb : Below w1.heap.size w1 W) => (ho1.bs.below hb).str (P := Tryd.prog) 22 9 5 c1 Tryd.underlying22 Tryd.underlying5 Tryd.underlying9
      iterate 3 (refine wpSeq_take (o := ⟨_, _, _, _, _, _⟩) (v := ?_) rfl rfl ?_ ?_; rotate_left; (focus (intro W hW; go_simp; first | done | with_reducible rfl)); simp only [Act.put, List.setIfInBounds_toArray, List.set_cons_zero, List.set_cons_succ])
      refine wpSeq_nil ?_
      go_wp2_with fail
      go_ret2
      rw [HO2.out]
      exact ⟨A, m, c, rfl, hUp.below S1, S1, by omega⟩
    · have heq : (sealL (l.take m) == l) = false := by rw [beq_eq_false_iff_ne]; exact hx
      have HO2 : Hid (openL l = ([], false)) := by rw [HO.out, if_pos (by intro h; exact hx (HI.out.2 h))]; exact Lib.hid rfl
      clear hx HO
      generalize sealL (l.take m) = y at *
      go_enter Tryd.func18, Tryd.ntmps18
      go_wp2_with fail
      refine wp_region_seq (by kernel_rfl) [(0, true), (1, true), (2, true), (3, true), (4, true), (5, true), (8, true), (9, true), (6, false), (7, true), (10, true), (11, true)] (by kernel_rfl) rfl (by kernel_rfl) ?_
      intro w0 hb0
      have tr0 : ∀ W, Below w0.heap.size w0 W → Below w.heap.size w W := fun W h => bel_step hb0 h
      iterate 8 (refine wpSeq_take (o := ⟨_, _, _, _, _, _⟩) (v := ?_) rfl rfl ?_ ?_; rotate_left; (focus (intro W hW; go_simp; first | done | with_reducible rfl)); simp only [Act.put, List.setIfInBounds_toArray, List.set_cons_zero, List.set_cons_succ])
      refine wpSeq_exec (o := ⟨_, _, _, _, _, _⟩) rfl rfl (fun K hK => ?_)
      go_simp
      refine (HS.out w0 hb0).mono ?_
      rintro e w1 ⟨A1, n1, c1, rfl, ho1, hb1⟩
      go_wp2_with fail
      refine hK _ _ hb1 ?_
      clear hK K
      have S1 := bel_step hb0 hb1
      have ks1 := fun W (hb : Below w1.heap.size w1 W) => (ho1.bs.below hb).str (P := Tryd.prog) 22 9 5 c1 Tryd.underlying22 Tryd.underlying5 Tryd.underlying9
      iterate 3 (refine wpSeq_take (o := ⟨_, _, _, _, _, _⟩) (v := ?_) rfl rfl ?_ ?_; rotate_left; (focus (intro W hW; go_simp; first | done | with_reducible rfl)); simp only [Act.put, List.setIfInBounds_toArray, List.set_cons_zero, List.set_cons_succ])
      refine wpSeq_nil ?_
      go_wp2_with fail
      go_ret2
      rw [HO2.out]
      exact ⟨none, 0, 0, rfl, Bs.nil, S1, Nat.le_refl _⟩

theorem open_seal (l : List UInt8) : openL (sealL l) = (l, true) := by
  have hl : (sealL l).length = l.length + 4 := by simp [sealL, wordL]
  rw [openL_eq hl]
  have h1 : (sealL l).take l.length = l := by simp [sealL]
  have h2 : (sealL l).drop l.length = wordL (crcSum l) := by simp [sealL]
  rw [h1, h2, word_leN _ (crcSum_lt l), if_neg (by simp)]

set_option maxHeartbeats 2000000 in
theorem crcSeals_walk (A B : Option Addr) (n c m d : Nat) (la lb : List UInt8) (w : World) (hA : Bs w A n la) (hB : Bs w B m lb) (hmd : m ≤ d) (hn : n ≤ 9223372036854775807) (hm : m ≤ 9223372036854775807) (ht : Tab w) :
    Calls Tryd.prog 5 #[.slice A n c, .slice B m d] w (RetTrue w) := by
  by_cases hn3 : 3000 < n
  · go_enter Tryd.func5, Tryd.ntmps5
    go_wp2_with fail
    refine (lives02_any w ht).mono ?_
    rintro e w1 ⟨rfl, hb⟩
    go_wp2_with fail
    go_ret
    exact ⟨rfl, hb⟩
  by_cases hm3 : 3000 < m
  · go_enter Tryd.func5, Tryd.ntmps5
    go_wp2_with fail
    refine (lives02_any w ht).mono ?_
    rintro e w1 ⟨rfl, hb⟩
    go_wp2_with fail
    go_ret
    exact ⟨rfl, hb⟩
  have hd1 : decide (3000 < (n : Int)) = false := by simp; omega
  have hd2 : decide (3000 < (m : Int)) = false := by simp; omega
  have HL := Lib.hid (show (sealL la).length = n + 4 by have := hA.len; simp [sealL, wordL]; omega)
  have HO := Lib.hid (open_seal la)
  have Hseal := Lib.hid (seal_any A n c la w (by omega) hA ht)
  have Hopb := Lib.hid (fun W (hb : Below w.heap.size w W) => open_any B m d lb W (by omega) (hB.below hb) (ht.below hb) hmd)
  have Hropb := Lib.hid (fun W (hb : Below w.heap.size w W) => refOpen_any B m d lb W (by omega) (hB.below hb) hmd)
  have Hrseal := Lib.hid (fun W (hb : Below w.heap.size w W) => refSeal_any A n c la W (by omega) (hA.below hb))
  generalize sealL la = sa at *
  generalize openL lb = ob at *
  obtain ⟨y, ok⟩ := ob
  cases ok with
  | true =>
    go_enter Tryd.func5, Tryd.ntmps5
    go_wp2_with fail
    refine Hseal.out.mono ?_
    rintro e w1 ⟨A1, n1, c1, rfl, ho1, hb1⟩
    have hn1 : n1 ≤ 4000 := by rw [← ho1.len, HL.out]; omega
    go_wp2_with fail
    refine (open_any A1 n1 c1 sa w1 (by omega) ho1.bs (ht.below hb1) ho1.cap).mono ?_
    rw [HO.out]
    rintro e w2 ⟨A2, n2, c2, rfl, ho2, hb2⟩
    have S2 := bel_step hb1 hb2
    go_wp2_with fail
    refine (Hopb.out w2 S2).mono ?_
    rintro e w3 ⟨A3, n3, c3, rfl, ho3, hb3⟩
    have S3 := bel_step S2 hb3
    go_wp2_with fail
    refine (Hropb.out w3 S3).mono ?_
    rintro e w4 ⟨A4, n4, c4, rfl, ho4, hb4, _⟩
    have S4 := bel_step S3 hb4
    have q1 := ho1.bs.below (bel_step (bel_step hb2 hb3) hb4)
    have q2 := ho2.bs.below (bel_step hb3 hb4)
    have q3 := ho3.bs.below hb4
    have q4 := ho4
    have qa := hA.below S4
    clear ho1 ho2 ho3 ho4 hb1 hb2 hb3 hb4 S2 S3
    simp only at q3 q4
    have ks1 := fun W (hb : Below w4.heap.size w4 W) => (q1.below hb).str (P := Tryd.prog) 22 9 5 c1 Tryd.underlying22 Tryd.underlying5 Tryd.underlying9
    have ks2 := fun W (hb : Below w4.heap.size w4 W) => (q2.below hb).str (P := Tryd.prog) 22 9 5 c2 Tryd.underlying22 Tryd.underlying5 Tryd.underlying9
    have ks3 := fun W (hb : Below w4.heap.size w4 W) => (q3.below hb).str (P := Tryd.prog) 22 9 5 c3 Tryd.underlying22 Tryd.underlying5 Tryd.underlying9
    have ks4 := fun W (hb : Below w4.heap.size w4 W) => (q4.below hb).str (P := Tryd.prog) 22 9 5 c4 Tryd.underlying22 Tryd.underlying5 Tryd.underlying9
    have ks5 := fun W (hb : Below w4.heap.size w4 W) => (qa.below hb).str (P := Tryd.prog) 22 9 5 c Tryd.underlying22 Tryd.underlying5 Tryd.underlying9
    go_wp2_with fail
    refine wp_region_seq (by kernel_rfl) [(0, false), (1, true), (2, true), (3, true), (4, true), (5, false), (6, true), (7, true), (8, true), (9, true), (10, true), (11, true), (12, true), (13, true), (14, true), (15, true), (16, true), (17, true), (18, true), (19, true), (20, true), (21, true), (22, true), (23, true), (24, true), (25, true), (26, true), (27, true), (28, true), (29, true), (30, true), (31, true), (32, true), (33, true), (34, true), (35, true), (36, true), (37, true), (38, true), (39, true), (40, true)] (by kernel_rfl) rfl (by kernel_rfl) ?_
    intro w5 hb5
    refine wpSeq_exec (o := ⟨_, _, _, _, _, _⟩) rfl rfl (fun K hK => ?_)
    go_simp
    refine (lives02_any w5 (ht.below (bel_step S4 hb5))).mono ?_
    rintro e w6 ⟨rfl, hb6⟩
    go_wp2_with fail
    refine hK _ _ hb6 ?_
    clear hK K
    have S6 := bel_step hb5 hb6
    have tr6 : ∀ W, Below w6.heap.size w6 W → Below w4.heap.size w4 W := fun W h => bel_step S6 h
    iterate 4 (refine wpSeq_take (o := ⟨_, _, _, _, _, _⟩) (v := ?_) rfl rfl ?_ ?_; rotate_left; (focus (intro W hW; go_simp; first | done | with_reducible rfl)); simp only [Act.put, List.setIfInBounds_toArray, List.set_cons_zero, List.set_cons_succ])
    refine wpSeq_exec (o := ⟨_, _, _, _, _, _⟩) rfl rfl (fun K hK => ?_)
    go_simp
    refine (Hrseal.out w6 (bel_step S4 S6)).mono ?_
    rintro e w7 ⟨A7, n7, c7, rfl, ho7, hb7⟩
    go_wp2_with fail
    refine hK _ _ hb7 ?_
    clear hK K
    have S7 := bel_step S6 hb7
    have tr7 : ∀ W, Below w7.heap.size w7 W → Below w4.heap.size w4 W := fun W h => bel_step S7 h
    have ks7 := fun W (hb : Below w7.heap.size w7 W) => (ho7.bs.below hb).str (P := Tryd.prog) 22 9 5 c7 Tryd.underlying22 Tryd.underlying5 Tryd.underlying9
    iterate 30 (refine wpSeq_take (o := ⟨_, _, _, _, _, _⟩) (v := ?_) rfl rfl ?_ ?_; rotate_left; (focus (intro W hW; go_simp; first | done | with_reducible rfl)); simp only [Act.put, List.setIfInBounds_toArray, List.set_cons_zero, List.set_cons_succ])
    iterate 2 (refine wpSeq_skip (o := ⟨_, _, _, _, _, _⟩) rfl rfl ?_; simp only [Act.put, List.setIfInBounds_toArray, List.set_cons_zero, List.set_cons_succ])
    iterate 3 (refine wpSeq_take (o := ⟨_, _, _, _, _, _⟩) (v := ?_) rfl rfl ?_ ?_; rotate_left; (focus (intro W hW; go_simp; first | done | with_reducible rfl)); simp only [Act.put, List.setIfInBounds_toArray, List.set_cons_zero, List.set_cons_succ])
    refine wpSeq_nil ?_
    go_wp2_with fail
    go_ret
    exact ⟨rfl, bel_step S4 S7⟩
  | false =>
    go_enter Tryd.func5, Tryd.ntmps5
    go_wp2_with fail
    refine Hseal.out.mono ?_
    rintro e w1 ⟨A1, n1, c1, rfl, ho1, hb1⟩
    have hn1 : n1 ≤ 4000 := by rw [← ho1.len, HL.out]; omega
    go_wp2_with fail
    refine (open_any A1 n1 c1 sa w1 (by omega) ho1.bs (ht.below hb1) ho1.cap).mono ?_
    rw [HO.out]
    rintro e w2 ⟨A2, n2, c2, rfl, ho2, hb2⟩
    have S2 := bel_step hb1 hb2
    go_wp2_with fail
    refine (Hopb.out w2 S2).mono ?_
    rintro e w3 ⟨A3, n3, c3, rfl, ho3, hb3⟩
    have S3 := bel_step S2 hb3
    go_wp2_with fail
    refine (Hropb.out w3 S3).mono ?_
    rintro e w4 ⟨A4, n4, c4, rfl, ho4, hb4, _⟩
    have S4 := bel_step S3 hb4
    have q1 := ho1.bs.below (bel_step (bel_step hb2 hb3) hb4)
    have q2 := ho2.bs.below (bel_step hb3 hb4)
    have q3 := ho3.bs.below hb4
    have q4 := ho4
    have qa := hA.below S4
    clear ho1 ho2 ho3 ho4 hb1 hb2 hb3 hb4 S2 S3
    simp only at q3 q4
    have ks1 := fun W (hb : Below w4.heap.size w4 W) => (q1.below hb).str (P := Tryd.prog) 22 9 5 c1 Tryd.underlying22 Tryd.underlying5 Tryd.underlying9
    have ks2 := fun W (hb : Below w4.heap.size w4 W) => (q2.below hb).str (P := Tryd.prog) 22 9 5 c2 Tryd.underlying22 Tryd.underlying5 Tryd.underlying9
    have ks3 := fun W (hb : Below w4.heap.size w4 W) => (q3.below hb).str (P := Tryd.prog) 22 9 5 c3 Tryd.underlying22 Tryd.underlying5 Tryd.underlying9
    have ks4 := fun W (hb : Below w4.heap.size w4 W) => (q4.below hb).str (P := Tryd.prog) 22 9 5 c4 Tryd.underlying22 Tryd.underlying5 Tryd.underlying9
    have ks5 := fun W (hb : Below w4.heap.size w4 W) => (qa.below hb).str (P := Tryd.prog) 22 9 5 c Tryd.underlying22 Tryd.underlying5 Tryd.underlying9
    go_wp2_with fail
    refine wp_region_seq (by kernel_rfl) [(0, false), (1, true), (2, true), (3, true), (4, true), (5, false), (6, true), (7, true), (8, true), (9, true), (10, true), (11, true), (12, true), (13, true), (14, true), (15, true), (16, true), (17, true), (18, true), (19, true), (20, true), (21, true), (22, true), (23, true), (24, true), (25, true), (26, true), (27, true), (28, true), (29, true), (30, true), (31, true), (32, true), (33, true), (34, true), (35, true), (36, true), (37, true), (38, true), (39, true), (40, true)] (by kernel_rfl) rfl (by kernel_rfl) ?_
    intro w5 hb5
    refine wpSeq_exec (o := ⟨_, _, _, _, _, _⟩) rfl rfl (fun K hK => ?_)
    go_simp
    refine (lives02_any w5 (ht.below (bel_step S4 hb5))).mono ?_
    rintro e w6 ⟨rfl, hb6⟩
    go_wp2_with fail
    refine hK _ _ hb6 ?_
    clear hK K
    have S6 := bel_step hb5 hb6
    have tr6 : ∀ W, Below w6.heap.size w6 W → Below w4.heap.size w4 W := fun W h => bel_step S6 h
    iterate 4 (refine wpSeq_take (o := ⟨_, _, _, _, _, _⟩) (v := ?_) rfl rfl ?_ ?_; rotate_left; (focus (intro W hW; go_simp; first | done | with_reducible rfl)); simp only [Act.put, List.setIfInBounds_toArray, List.set_cons_zero, List.set_cons_succ])
    refine wpSeq_exec (o := ⟨_, _, _, _, _, _⟩) rfl rfl (fun K hK => ?_)
    go_simp
    refine (Hrseal.out w6 (bel_step S4 S6)).mono ?_
    rintro e w7 ⟨A7, n7, c7, rfl, ho7, hb7⟩
    go_wp2_with fail
    refine hK _ _ hb7 ?_
    clear hK K
    have S7 := bel_step S6 hb7
    have tr7 : ∀ W, Below w7.heap.size w7 W → Below w4.heap.size w4 W := fun W h => bel_step S7 h
    have ks7 := fun W (hb : Below w7.heap.size w7 W) => (ho7.bs.below hb).str (P := Tryd.prog) 22 9 5 c7 Tryd.underlying22 Tryd.underlying5 Tryd.underlying9
    iterate 35 (refine wpSeq_take (o := ⟨_, _, _, _, _, _⟩) (v := ?_) rfl rfl ?_ ?_; rotate_left; (focus (intro W hW; go_simp; first | done | with_reducible rfl)); simp only [Act.put, List.setIfInBounds_toArray, List.set_cons_zero, List.set_cons_succ])
    refine wpSeq_nil ?_
    go_wp2_with fail
    go_ret
    exact ⟨rfl, bel_step S4 S7⟩
end Go.Proofs.YtgklbejnbplbgaaDoor
