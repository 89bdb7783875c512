/-
  The reference's frames: Put, number, Next.
-/
import Derived.Test.YtgklbejnbplbgaaDoorFrmA
import Derived.Test.YtgklbejnbplbgaaDoorNumJ
import Derived.Test.YtgklbejnbplbgaaDoorNumH
import Derived.Test.YtgklbejnbplbgaaDoorSeq
namespace Go.Proofs.YtgklbejnbplbgaaDoor
open Go.RowKit Go.Nst
set_option maxRecDepth 100000
set_option linter.unusedVariables false
set_option linter.unusedSimpArgs false

theorem bs_place {w : World} {A : Option Addr} {n : Nat} {l : List UInt8} (h : Bs w A n l) {ad : Addr} (e : A = some ad) (hn : 0 < n) : ad.block < w.heap.size := by
  obtain ⟨ad', e', hb, _⟩ := h.2 hn
  rw [e] at e'
  injection e' with e'
  subst e'
  exact hb
def RetP2 (A0 : Option Addr) (w : World) (r : List UInt8 × Bool) (e : Ending) (w' : World) : Prop := ∃ A n c, e = .returned (.tuple #[.slice A n c, .bool r.2]) ∧ Bs w' A n r.1 ∧ Below w.heap.size w w' ∧ n ≤ c ∧ ∀ ad, A = some ad → 0 < n → ∃ a0, A0 = some a0 ∧ ad.block = a0.block

set_option maxHeartbeats 1000000 in
theorem refOpen2_any (A : Option Addr) (n c : Nat) (l : List UInt8) (w : World) (hn : n ≤ 140737488350000) (hB : Bs w A n l) (hnc : n ≤ c) :
    Calls Tryd.prog 18 #[.slice A n c] w (RetP2 A w (openL l)) := by
  by_cases h4 : n < 4
  · have hd : decide ((n : Int) - 4 < 0) = true := by simp; omega
    have HO : Hid (openL l = ([], false)) := by
      unfold openL
      rw [if_pos (.inl (by rw [hB.len]; exact h4))]
      exact Lib.hid rfl
    go_enter Tryd.func18, Tryd.ntmps18
    go_wp2_with fail
    go_quiet (fail)
    go_wp2_with fail
    go_ret2
    exact ⟨none, 0, 0, by rw [HO.out]; rfl, by rw [HO.out]; exact Bs.nil, below_drewN (Below.refl _ _) nq, Nat.le_refl _, fun _ _ h => absurd h (by omega)⟩
  · obtain ⟨m, hm⟩ : ∃ m, n = m + 4 := ⟨n - 4, by omega⟩
    have e4 : (n : Int) - 4 = (m : Int) := by omega
    have hd : decide ((m : Int) < 0) = false := by simp
    have b1 : (m : Int) ≤ (c : Int) := by omega
    have b2 : (0 : Int) ≤ (m : Int) := by omega
    have b3 : (m : Int) ≤ (n : Int) := by omega
    have b4 : m ≤ n := by omega
    have HI := Lib.hid (seal_iff l m (by rw [hB.len]; exact hm))
    have HO : Hid (openL l = if leN (l.drop m) ≠ crcSum (l.take m) then ([], false) else (l.take m, true)) := openL_eq (by rw [hB.len]; exact hm)
    clear hm
    have hUp := hB.upto b4
    have HS := Lib.hid (fun W (hb : Below w.heap.size w W) => refSeal_any A m c (l.take m) W (by omega) (hUp.below hb))
    have ks := fun W (hb : Below w.heap.size w W) => (hB.below hb).str (P := Tryd.prog) 22 9 5 c Tryd.underlying22 Tryd.underlying5 Tryd.underlying9
    by_cases hx : sealL (l.take m) = l
    · have heq : (sealL (l.take m) == l) = true := by rw [beq_iff_eq]; exact hx
      have HO2 : Hid (openL l = (l.take m, true)) := by rw [HO.out, if_neg (by simpa using HI.out.1 hx)]; exact Lib.hid rfl
      clear hx HO
      generalize sealL (l.take m) = y at *
      go_enter Tryd.func18, Tryd.ntmps18
      go_wp2_with fail
      refine wp_region_seq (by kernel_rfl) [(0, true), (1, true), (2, true), (3, true), (4, true), (5, true), (8, true), (9, true), (6, false), (7, true), (10, true), (11, true)] (by kernel_rfl) rfl (by kernel_rfl) ?_
      intro w0 hb0
      have tr0 : ∀ W, Below w0.heap.size w0 W → Below w.heap.size w W := fun W h => bel_step hb0 h
      iterate 8 (refine wpSeq_take (o := ⟨_, _, _, _, _, _⟩) (v := ?_) rfl rfl ?_ ?_; rotate_left; (focus (intro W hW; go_simp; first | done | with_reducible rfl)); simp only [Act.put, List.setIfInBounds_toArray, List.set_cons_zero, List.set_cons_succ])
      refine wpSeq_exec (o := ⟨_, _, _, _, _, _⟩) rfl rfl (fun K hK => ?_)
      go_simp
      refine (HS.out w0 hb0).mono ?_
      rintro e w1 ⟨A1, n1, c1, rfl, ho1, hb1⟩
      go_wp2_with fail
      refine hK _ _ hb1 ?_
      clear hK K
      have S1 := bel_step hb0 hb1
      have ks1 := fun W (hb : Below w1.heap.size w1 W) => (ho1.bs.below hb).str (P := Tryd.prog) 22 9 5 c1 Tryd.underlying22 Tryd.underlying5 Tryd.underlying9
      iterate 3 (refine wpSeq_take (o := ⟨_, _, _, _, _, _⟩) (v := ?_) rfl rfl ?_ ?_; rotate_left; (focus (intro W hW; go_simp; first | done | with_reducible rfl)); simp only [Act.put, List.setIfInBounds_toArray, List.set_cons_zero, List.set_cons_succ])
      refine wpSeq_nil ?_
      go_wp2_with fail
      go_ret2
      rw [HO2.out]
      exact ⟨A, m, c, rfl, hUp.below S1, S1, by omega, fun ad e h => ⟨ad, e, rfl⟩⟩
    · have heq : (sealL (l.take m) == l) = false := by rw [beq_eq_false_iff_ne]; exact hx
      have HO2 : Hid (openL l = ([], false)) := by rw [HO.out, if_pos (by intro h; exact hx (HI.out.2 h))]; exact Lib.hid rfl
      clear hx HO
      generalize sealL (l.take m) = y at *
      go_enter Tryd.func18, Tryd.ntmps18
      go_wp2_with fail
      refine wp_region_seq (by kernel_rfl) [(0, true), (1, true), (2, true), (3, true), (4, true), (5, true), (8, true), (9, true), (6, false), (7, true), (10, true), (11, true)] (by kernel_rfl) rfl (by kernel_rfl) ?_
      intro w0 hb0
      have tr0 : ∀ W, Below w0.heap.size w0 W → Below w.heap.size w W := fun W h => bel_step hb0 h
      iterate 8 (refine wpSeq_take (o := ⟨_, _, _, _, _, _⟩) (v := ?_) rfl rfl ?_ ?_; rotate_left; (focus (intro W hW; go_simp; first | done | with_reducible rfl)); simp only [Act.put, List.setIfInBounds_toArray, List.set_cons_zero, List.set_cons_succ])
      refine wpSeq_exec (o := ⟨_, _, _, _, _, _⟩) rfl rfl (fun K hK => ?_)
      go_simp
      refine (HS.out w0 hb0).mono ?_
      rintro e w1 ⟨A1, n1, c1, rfl, ho1, hb1⟩
      go_wp2_with fail
      refine hK _ _ hb1 ?_
      clear hK K
      have S1 := bel_step hb0 hb1
      have ks1 := fun W (hb : Below w1.heap.size w1 W) => (ho1.bs.below hb).str (P := Tryd.prog) 22 9 5 c1 Tryd.underlying22 Tryd.underlying5 Tryd.underlying9
      iterate 3 (refine wpSeq_take (o := ⟨_, _, _, _, _, _⟩) (v := ?_) rfl rfl ?_ ?_; rotate_left; (focus (intro W hW; go_simp; first | done | with_reducible rfl)); simp only [Act.put, List.setIfInBounds_toArray, List.set_cons_zero, List.set_cons_succ])
      refine wpSeq_nil ?_
      go_wp2_with fail
      go_ret2
      rw [HO2.out]
      exact ⟨none, 0, 0, rfl, Bs.nil, S1, Nat.le_refl _, fun _ _ h => absurd h (by omega)⟩


set_option maxHeartbeats 1000000 in
theorem refPut17_any (A : Option Addr) (n c : Nat) (l : List UInt8) (w : World) (hn : n ≤ 100000) (hB : Bs w A n l) :
    Calls Tryd.prog 25 #[.slice A n c] w (RetB w (frameL l)) := by
  have hl := hB.len
  have HE : Hid (frameL l = putL (zig n) ++ sealL l) := by unfold frameL; rw [hl]; exact Lib.hid rfl
  have HP := Lib.hid (refPut_any n w (by rw [mayB_iff]; omega))
  have hpl := (putL_len (zig n)).2
  have HS := Lib.hid (fun W (hb : Below w.heap.size w W) => refSeal_any A n c l W (by omega) (hB.below hb))
  have hsl := seal_len l
  generalize putL (zig n) = p at *
  generalize sealL l = q at *
  go_enter Tryd.func25, Tryd.ntmps25
  go_wp2_with fail
  refine HP.out.mono ?_
  rintro e w1 ⟨A1, n1, c1, rfl, ho1, B1⟩
  have hn1 := ho1.len
  go_wp2_with fail
  refine (HS.out _ B1).mono ?_
  rintro e w2 ⟨A2, n2, c2, rfl, ho2, hb2⟩
  have hn2 := ho2.len
  have q1 := ho1.below hb2
  have B2 := bel_step B1 hb2
  have hs2 := B2.size
  clear hb2 ho1
  go_wp2_with (at_builtin; refine wpList_appBg _ iBytes rfl rfl rfl q1 rfl ho2.bs (n1 + n2) (p ++ q) rfl rfl (by omega) hs2 ?_; intro A' c' w' ho hb _ _)
  go_ret
  rw [HE.out]
  exact ⟨A', n1 + n2, c', rfl, ho, B2.trans hb⟩

theorem numB_yes {l : List UInt8} {k : Nat} (h1 : 1 ≤ k) (h2 : k ≤ 8192) (h : numAt l k = true) : numB l = true := by
  unfold numB
  rw [List.any_eq_true]
  exact ⟨k - 1, by simp; omega, by rw [show k - 1 + 1 = k by omega]; exact h⟩
theorem numB_not {l : List UInt8} (h : ∀ i, 1 ≤ i → i < 8193 → numAt l i = false) : numB l = false := by
  unfold numB
  rw [List.any_eq_false]
  intro i hi
  rw [h (i + 1) (by omega) (by simp at hi; omega)]
  simp
theorem numAt_eq {l p : List UInt8} {k n : Nat} (hl : l.length = n) (hp : putL (zig (k : Int)) = p) : numAt l k = (decide (n < p.length) && (p.take n == l)) := by
  have hz : zig (k : Int) = 2 * k := by unfold zig; rw [if_pos (by omega)]; omega
  unfold numAt
  rw [← hz, hp, hl]

set_option maxHeartbeats 4000000 in
theorem number_any (A : Option Addr) (n c : Nat) (l : List UInt8) (w : World) (hn : n ≤ 100000) (hnc : n ≤ c) (hB : Bs w A n l) :
    Calls Tryd.prog 41 #[.slice A n c] w fun e w' => e = .returned (.bool (numB l)) ∧ Below w.heap.size w w' := by
  have HL := Lib.hid hB.len
  go_enter Tryd.func41, Tryd.ntmps41
  go_wp2_with fail
  go_loopw [3] (fun i wr => ∃ k : Nat, i = .int .i64 (k : Int) ∧ 1 ≤ k ∧ k ≤ 8193 ∧ Below w.heap.size w wr ∧ Hid (∀ i, 1 ≤ i → i < k → numAt l i = false)) (fun i _ => 8193 - (intOf i).toNat)
  case atStart => exact ⟨1, rfl, by omega, by omega, Below.refl _ _, Lib.hid (fun i h1 h2 => by omega)⟩
  case round =>
    obtain ⟨k, rfl, hk1, hk2, hbw, HA⟩ := hrel
    by_cases hlt : k ≤ 8192
    · have d0 : decide ((k : Int) ≤ 8192) = true := by simp; omega
      have HP := Lib.hid (refPut_any (k : Int) wr (by rw [mayB_iff]; omega))
      have HN := Lib.hid (numAt_eq HL.out (rfl : putL (zig (k : Int)) = _))
      generalize putL (zig (k : Int)) = p at *
      go_wp2_with fail
      refine HP.out.mono ?_
      rintro e w1 ⟨A1, n1, c1, rfl, ho1, hb1⟩
      have B1 := bel_step hbw hb1
      have hn1 := ho1.len
      have hc1 := ho1.cap
      have q1 := ho1.bs
      rw [hn1] at HN
      have ks0 := fun W (hb : Below w1.heap.size w1 W) => ((hB.below B1).below hb).str (P := Tryd.prog) 22 9 5 c Tryd.underlying22 Tryd.underlying5 Tryd.underlying9
      by_cases hnn : n < n1
      · have d1 : decide ((n : Int) < (n1 : Int)) = true := by simp; omega
        have b1 : (n : Int) ≤ (c1 : Int) := by omega
        have b2 : (0 : Int) ≤ (n : Int) := by omega
        have q2 := q1.upto (k := n) (by omega)
        have ks1 := fun W (hb : Below w1.heap.size w1 W) => (q2.below hb).str (P := Tryd.prog) 22 9 5 c1 Tryd.underlying22 Tryd.underlying5 Tryd.underlying9
        rw [decide_eq_true hnn, Bool.true_and] at HN
        have HX : ∃ bb, (p.take n == l) = bb := ⟨_, rfl⟩
        obtain ⟨bb, heq⟩ := HX
        rw [heq] at HN
        cases bb with
        | true =>
          have HF := Lib.hid (numB_yes hk1 hlt HN.out)
          go_wp2_with fail
          refine wp_region_seq (by kernel_rfl) [(0, true), (1, true), (2, true), (3, true), (4, true), (5, true), (6, true), (7, true), (8, true), (9, true), (10, true), (11, true), (12, true), (13, true), (14, true)] (by kernel_rfl) rfl (by kernel_rfl) ?_
          intro w2 hb2
          have tr2 : ∀ W, Below w2.heap.size w2 W → Below w1.heap.size w1 W := fun W h => bel_step hb2 h
          iterate 15 (refine wpSeq_take (o := ⟨_, _, _, _, _, _⟩) (v := ?_) rfl rfl ?_ ?_; rotate_left; (focus (intro W hW; go_simp; first | done | with_reducible rfl)); simp only [Act.put, List.setIfInBounds_toArray, List.set_cons_zero, List.set_cons_succ])
          refine wpSeq_nil ?_
          go_wp2_with fail
          go_ret
          exact ⟨by rw [HF.out]; rfl, bel_step B1 hb2⟩
        | false =>
          go_wp2_with fail
          refine wp_region_seq (by kernel_rfl) [(0, true), (1, true), (2, true), (3, true), (4, true), (5, true), (6, true), (7, true), (8, true), (9, true), (10, true), (11, true), (12, true), (13, true), (14, true)] (by kernel_rfl) rfl (by kernel_rfl) ?_
          intro w2 hb2
          have tr2 : ∀ W, Below w2.heap.size w2 W → Below w1.heap.size w1 W := fun W h => bel_step hb2 h
          iterate 15 (refine wpSeq_take (o := ⟨_, _, _, _, _, _⟩) (v := ?_) rfl rfl ?_ ?_; rotate_left; (focus (intro W hW; go_simp; first | done | with_reducible rfl)); simp only [Act.put, List.setIfInBounds_toArray, List.set_cons_zero, List.set_cons_succ])
          refine wpSeq_nil ?_
          go_wp2_with fail
          go_roundw
          case rel => exact ⟨k + 1, by go_num, by omega, by omega, bel_step B1 hb2, Lib.hid (fun i h1 h2 => by by_cases e : i = k; (· subst e; exact HN.out); (· exact HA.out i h1 (by omega)))⟩
          case measure => simp [intOf]; omega
      · have d1 : decide ((n : Int) < (n1 : Int)) = false := by simp; omega
        rw [decide_eq_false hnn, Bool.false_and] at HN
        go_wp2_with fail
        refine wp_region_seq (by kernel_rfl) [(0, true), (1, true), (2, true), (3, true), (4, true), (5, true), (6, true), (7, true), (8, true), (9, true), (10, true), (11, true), (12, true), (13, true), (14, true)] (by kernel_rfl) rfl (by kernel_rfl) ?_
        intro w2 hb2
        iterate 6 (refine wpSeq_take (o := ⟨_, _, _, _, _, _⟩) (v := ?_) rfl rfl ?_ ?_; rotate_left; (focus (intro W hW; go_simp; first | done | with_reducible rfl)); simp only [Act.put, List.setIfInBounds_toArray, List.set_cons_zero, List.set_cons_succ])
        iterate 8 (refine wpSeq_skip (o := ⟨_, _, _, _, _, _⟩) rfl rfl ?_; simp only [Act.put, List.setIfInBounds_toArray, List.set_cons_zero, List.set_cons_succ])
        iterate 1 (refine wpSeq_take (o := ⟨_, _, _, _, _, _⟩) (v := ?_) rfl rfl ?_ ?_; rotate_left; (focus (intro W hW; go_simp; first | done | with_reducible rfl)); simp only [Act.put, List.setIfInBounds_toArray, List.set_cons_zero, List.set_cons_succ])
        refine wpSeq_nil ?_
        go_wp2_with fail
        go_roundw
        case rel => exact ⟨k + 1, by go_num, by omega, by omega, bel_step B1 hb2, Lib.hid (fun i h1 h2 => by by_cases e : i = k; (· subst e; exact HN.out); (· exact HA.out i h1 (by omega)))⟩
        case measure => simp [intOf]; omega
    · have d0 : decide ((k : Int) ≤ 8192) = false := by simp; omega
      have HF := Lib.hid (numB_not (l := l) (fun i h1 h2 => HA.out i h1 (by omega)))
      go_wp2_with fail
      go_ret
      exact ⟨by rw [HF.out]; rfl, hbw⟩
/-- what comes of the reference's Next: bytes that were there -/
def RetY (A0 : Option Addr) (w : World) (r : List UInt8 × Nat × Int) (e : Ending) (w' : World) : Prop := ∃ A n c, e = .returned (.tuple #[.slice A n c, .int .i64 (r.2.1 : Int), .int .i64 r.2.2]) ∧ Bs w' A n r.1 ∧ Below w.heap.size w w' ∧ n ≤ c ∧ ∀ ad, A = some ad → 0 < n → ∃ a0, A0 = some a0 ∧ ad.block = a0.block
theorem RetY.none_ {A0 : Option Addr} {w w' : World} {r : List UInt8 × Nat × Int} {s : Int} (hb : Below w.heap.size w w') (h : r = ([], 0, s))   : RetY A0 w r (.returned (.tuple #[.slice none 0 0, .int .i64 0, .int .i64 s])) w' := by
  subst h
  exact ⟨none, 0, 0, rfl, Bs.nil, hb, Nat.le_refl _, fun _ _ h => absurd h (by omega)⟩
set_option maxHeartbeats 2000000 in
theorem refNext17_any (A : Option Addr) (n c : Nat) (l : List UInt8) (w : World) (hn : n ≤ 100000) (hnc : n ≤ c) (hc63 : c ≤ 9223372036854775807) (hB : Bs w A n l) :
    Calls Tryd.prog 26 #[.slice A n c] w (RetY A w (nextL l)) := by
  have hl := hB.len
  have HG := Lib.hid (refGet_any A n c l w hB)
  cases hg : getL l with
  | none =>
    have HE := Lib.hid (next_none hg)
    rw [hg] at HG
    clear hg
    by_cases h3 : n < 3
    · have d3 : decide ((n : Int) < 3) = true := by simp; omega
      have HT := Lib.hid (number_any A n c l w hn hnc hB)
      rw [numB_torn l (by omega)] at HT
      cases htb : tornB l with
      | true =>
        rw [htb] at HT HE
        clear htb
        go_enter Tryd.func26, Tryd.ntmps26
        go_wp2_with fail
        refine HG.out.mono ?_
        rintro e w1 ⟨rfl, rfl⟩
        simp only [gotR]
        go_wp2_with fail
        refine HT.out.mono ?_
        rintro e w1 ⟨rfl, B1⟩
        go_wp2_with fail
        go_ret3
        exact RetY.none_ B1 HE.out
      | false =>
        rw [htb] at HT HE
        clear htb
        go_enter Tryd.func26, Tryd.ntmps26
        go_wp2_with fail
        refine HG.out.mono ?_
        rintro e w1 ⟨rfl, rfl⟩
        simp only [gotR]
        go_wp2_with fail
        refine HT.out.mono ?_
        rintro e w1 ⟨rfl, B1⟩
        go_wp2_with fail
        go_ret3
        exact RetY.none_ B1 HE.out
    · have d3 : decide ((n : Int) < 3) = false := by simp; omega
      have htb : tornB l = false := by
        match l, hl with
        | a :: b :: c :: t, _ => rfl
        | [], hl => simp at hl; omega
        | [a], hl => simp at hl; omega
        | [a, b], hl => simp at hl; omega
      rw [htb] at HE
      clear htb
      go_enter Tryd.func26, Tryd.ntmps26
      go_wp2_with fail
      refine HG.out.mono ?_
      rintro e w1 ⟨rfl, rfl⟩
      simp only [gotR]
      go_wp2_with fail
      go_ret3
      exact RetY.none_ (Below.refl _ _) HE.out
  | some r =>
    obtain ⟨m, k⟩ := r
    obtain ⟨_, _, hkl, hk0, hk8⟩ := put_get hg
    rw [hg] at HG
    by_cases h1 : m < 1 ∨ 8192 < m
    · have HE := Lib.hid (next_num hg h1)
      clear hg
      by_cases h2 : m < 1
      · have d1 : decide (m < 1) = true := by simp; omega
        go_enter Tryd.func26, Tryd.ntmps26
        go_wp2_with fail
        refine HG.out.mono ?_
        rintro e w1 ⟨rfl, rfl⟩
        simp only [gotR]
        go_wp2_with fail
        go_ret3
        exact RetY.none_ (Below.refl _ _) HE.out
      · have d1 : decide (m < 1) = false := by simp; omega
        have d2 : decide (8192 < m) = true := by simp; omega
        go_enter Tryd.func26, Tryd.ntmps26
        go_wp2_with fail
        refine HG.out.mono ?_
        rintro e w1 ⟨rfl, rfl⟩
        simp only [gotR]
        go_wp2_with fail
        go_ret3
        exact RetY.none_ (Below.refl _ _) HE.out
    have d1 : decide (m < 1) = false := by simp; omega
    have d2 : decide (8192 < m) = false := by simp; omega
    by_cases h2 : (l.length : Int) < k + m + 4
    · have HE := Lib.hid (next_short hg h1 h2)
      clear hg
      have d3 : decide ((n : Int) < (k : Int) + m + 4) = true := by simp; omega
      go_enter Tryd.func26, Tryd.ntmps26
      go_wp2_with fail
      refine HG.out.mono ?_
      rintro e w1 ⟨rfl, rfl⟩
      simp only [gotR]
      go_wp2_with fail
      go_ret3
      exact RetY.none_ (Below.refl _ _) HE.out
    have HE := Lib.hid (next_long hg h1 h2)
    obtain ⟨j, rfl⟩ : ∃ j : Nat, m = (j : Int) := ⟨m.toNat, by omega⟩
    rw [Int.toNat_natCast] at HE
    clear hg
    have d3 : decide ((n : Int) < (k : Int) + (j : Int) + 4) = false := by simp; omega
    have hck : ¬ c = k := by omega
    have hcut := hB.cut (k := k) (cap := c) (by omega) hnc
    rw [if_neg hck] at hcut
    obtain ⟨u, b, off, rfl, _⟩ := hB.at (k := 0) (by omega)
    have hcut2 := hcut.upto (k := j + 4) (by omega)
    have hck2 : (((k : Int) + (j : Int) + 4) - (k : Int)).toNat = j + 4 := by omega
    have b1 : (k : Int) ≤ (k : Int) + (j : Int) + 4 := by omega
    have b2 : (k : Int) + (j : Int) + 4 ≤ (c : Int) := by omega
    simp only [Option.map_some, add_lit] at hcut2
    have HO := Lib.hid (refOpen2_any (some ⟨b, off + k, none⟩) (k + j + 4 - k) (c - k) ((l.drop k).take (j + 4)) w (by omega) (by rw [show k + j + 4 - k = j + 4 by omega]; exact hcut2) (by omega))
    generalize openL ((l.drop k).take (j + 4)) = r at *
    obtain ⟨rl, rb⟩ := r
    go_enter Tryd.func26, Tryd.ntmps26
    go_wp2_with fail
    refine HG.out.mono ?_
    rintro e w1 ⟨rfl, rfl⟩
    simp only [gotR]
    go_wp2_with fail
    refine HO.out.mono ?_
    rintro e w1 ⟨A1, n1, c1, rfl, ho1, B1, hp1, hp2⟩
    cases rb with
    | true =>
      go_wp2_with fail
      go_ret3
      rw [HE.out]
      exact ⟨A1, n1, c1, by simp, ho1, B1, hp1, fun ad e h => by obtain ⟨a0, e0, e1⟩ := hp2 ad e h; injection e0 with e0; subst e0; exact ⟨_, rfl, e1⟩⟩
    | false =>
      go_wp2_with fail
      go_ret3
      rw [HE.out]
      exact RetY.none_ B1 rfl
end Go.Proofs.YtgklbejnbplbgaaDoor
