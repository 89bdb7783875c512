/-
  Queries' texts and what they lean on, part 21: only what the claims need.
-/
import Derived.Test.YtjjlmkleidbmhaaGreatDoorZ19
import Derived.Test.YtjjlmkleidbmhaaGreatDoorZ18
import Derived.Test.YtjjlmkleidbmhaaGreatDoorZ20
import Derived.Test.YtjjlmkleidbmhaaGreatDoorZ17
import Derived.Test.YtjjlmkleidbmhaaGreatDoorZ11
section
namespace Go.Proofs.YtjjlmkleidbmhaaGreatDoor
open Go.RowKit Go.Nst
set_option maxRecDepth 100000
set_option linter.unusedVariables false
set_option linter.unusedSimpArgs false

theorem webR_short {S : ByteArray} (h : S.size < 20) : webR (bl S) = none := by
  unfold webR
  rw [if_pos (.inl (by rw [bl_len]; exact h))]
theorem byte_ne {c : UInt8} {n : Nat} (hn : n < 256) : (some c ≠ some (UInt8.ofNat n)) ↔ c.toNat ≠ n := by
  simp only [ne_eq, Option.some.injEq, ← UInt8.toNat_inj, UInt8.toNat_ofNat']
  rw [Nat.mod_eq_of_lt (by omega)]
theorem webR_at {S : ByteArray} (h : 20 ≤ S.size) : webR (bl S) = if (S[4]'(by omega)).toNat ≠ 45 ∨ (S[7]'(by omega)).toNat ≠ 45 ∨ ((S[10]'(by omega)).toNat ≠ 84 ∧ (S[10]'(by omega)).toNat ≠ 116) ∨ (S[13]'(by omega)).toNat ≠ 58 ∨ (S[16]'(by omega)).toNat ≠ 58 then none else match restR ((bl S).drop 19) with
    | none => none
    | some rest => webZ (webD (bl S)) rest := by
  unfold webR
  rw [bl_get S 4 (by omega), bl_get S 7 (by omega), bl_get S 10 (by omega), bl_get S 13 (by omega), bl_get S 16 (by omega), bl_len]
  have e : ¬ S.size < 20 := by omega
  simp only [e, false_or, show (45 : UInt8) = UInt8.ofNat 45 from rfl, show (58 : UInt8) = UInt8.ofNat 58 from rfl, show (84 : UInt8) = UInt8.ofNat 84 from rfl, show (116 : UInt8) = UInt8.ofNat 116 from rfl, byte_ne (show 45 < 256 by omega), byte_ne (show 58 < 256 by omega), byte_ne (show 84 < 256 by omega), byte_ne (show 116 < 256 by omega)]
  rfl
theorem restR_dot {r : ByteArray} (h : 0 < r.size) (hd : (r[0]'h).toNat = 46) : restR (bl r) = if 1 ≤ runL ((bl r).drop 1) ∧ runL ((bl r).drop 1) ≤ 9 then some (((bl r).drop 1).drop (runL ((bl r).drop 1))) else none := by
  have e := bl_cons r h
  have h46 : r[0]'h = 46 := by rw [← UInt8.toNat_inj]; exact hd
  rw [h46] at e
  generalize (bl r).drop 1 = t at *
  rw [e]
  unfold restR
  simp
  try rfl
theorem restR_no {r : ByteArray} (h : 0 < r.size) (hd : (r[0]'h).toNat ≠ 46) : restR (bl r) = some (bl r) := by
  have e := bl_cons r h
  have h46 : r[0]'h ≠ 46 := by intro e; rw [e] at hd; exact hd rfl
  generalize (bl r).drop 1 = t at *
  rw [e]
  unfold restR
  simp [h46]
theorem webZ_len {d : Dt} {r : ByteArray} (h1 : bl r ≠ [90]) (h2 : bl r ≠ [122]) (h6 : r.size ≠ 6) : webZ d (bl r) = none := by
  unfold webZ
  rw [if_neg (by simp [h1, h2]), if_pos (.inl (by rw [bl_len]; exact h6))]
theorem webZ_six {d : Dt} {r : ByteArray} (h1 : bl r ≠ [90]) (h2 : bl r ≠ [122]) (h6 : r.size = 6) : webZ d (bl r) = if (r[3]'(by omega)).toNat ≠ 58 then none else match zoneR (r[0]'(by omega)) (bl (r.extract 1 3)) (bl (r.extract 4 6)) with
    | none => none
    | some z => toldR d z := by
  have e := bl_cons r (by omega)
  unfold webZ
  rw [if_neg (by simp [h1, h2]), bl_get r 3 (by omega), bl_len, bl_mid, bl_mid]
  have e4 : ((bl r).drop 4).take (6 - 4) = (bl r).drop 4 := List.take_of_length_le (by rw [List.length_drop, bl_len]; omega)
  have eh : (bl r).headD 0 = r[0]'(by omega) := by rw [e]; rfl
  rw [e4, eh]
  simp only [h6, ne_eq, not_true_eq_false, false_or, show (58 : UInt8) = UInt8.ofNat 58 from rfl]
  have := byte_ne (c := r[3]'(by omega)) (n := 58) (by omega)
  simp only [ne_eq] at this
  simp only [this]
  rfl
theorem drop_atH {S : ByteArray} {k : Nat} (hk : k < S.size) : (bl S).drop k = (S[k]'hk) :: (bl S).drop (k + 1) := by
  have h2 : k < (bl S).length := by rw [bl_len]; exact hk
  rw [List.drop_eq_getElem_cons h2]
  congr 1
theorem ext_size (S : ByteArray) (i k : Nat) : (S.extract i k).size ≤ S.size := by
  rw [← bl_len, bl_mid, ← bl_len]
  simp
  omega
theorem ba_of_bl {r : ByteArray} {l : List UInt8} (h : bl r = l) : r = ⟨l.toArray⟩ := by rw [← h, bl_mk]
theorem toList_ne {r : ByteArray} {l : List UInt8} (h : bl r ≠ l) : ¬ r.toList = l := by rw [bl_toList]; exact h
theorem zoneR_bd {c : UInt8} {h m : List UInt8} {z : Int} (e : zoneR c h m = some z) : -1000000 ≤ z ∧ z ≤ 1000000 := by
  unfold zoneR at e
  split at e
  · cases e
  · injection e with e
    unfold offN at e
    split at e <;> omega

set_option maxHeartbeats 8000000 in
theorem web4_any (S : ByteArray) (w : World) (hS : S.size ≤ 100000) : Calls Tryz.prog 112 #[.string S] w fun e w' => e = .returned (znV (webR (bl S))) ∧ Below w.heap.size w w' := by
  by_cases h20 : S.size < 20
  · have HV : Hid (webR (bl S) = none) := Lib.hid (webR_short h20)
    have d0 : decide ((S.size : Int) < 20) = true := by simp; omega
    go_enter Tryz.func112, Tryz.ntmps112
    go_wp2_with fail
    go_ret2
    rw [HV.out]
    exact ⟨rfl, Below.refl _ _⟩
  have d0 : decide ((S.size : Int) < 20) = false := by simp; omega
  have HV0 := Lib.hid (webR_at (S := S) (by omega))
  by_cases hbad : (S[4]'(by omega)).toNat ≠ 45 ∨ (S[7]'(by omega)).toNat ≠ 45 ∨ ((S[10]'(by omega)).toNat ≠ 84 ∧ (S[10]'(by omega)).toNat ≠ 116) ∨ (S[13]'(by omega)).toNat ≠ 58 ∨ (S[16]'(by omega)).toNat ≠ 58
  · have HV := Lib.hid (HV0.out.trans (if_pos hbad))
    clear HV0
    go_enter Tryz.func112, Tryz.ntmps112
    go_wp2_with fail
    all_goals first
      | (go_ret2; rw [HV.out]; exact ⟨rfl, Below.refl _ _⟩)
      | (exfalso; clear HV; simp_all; omega)
  have HV1 := Lib.hid (HV0.out.trans (if_neg hbad))
  clear HV0
  have b4 : (S[4]'(by omega)).toNat = 45 := by omega
  have b7 : (S[7]'(by omega)).toNat = 45 := by omega
  have b10 : (S[10]'(by omega)).toNat = 84 ∨ (S[10]'(by omega)).toNat = 116 := by omega
  have b13 : (S[13]'(by omega)).toNat = 58 := by omega
  have b16 : (S[16]'(by omega)).toNat = 58 := by omega
  clear hbad
  have hI : (4 : Int) ≤ S.size ∧ (7 : Int) ≤ S.size ∧ (10 : Int) ≤ S.size ∧ (13 : Int) ≤ S.size ∧ (16 : Int) ≤ S.size ∧ (19 : Int) ≤ S.size := by omega
  obtain ⟨i4, i7, i10, i13, i16, i19⟩ := hI
  have HN := Lib.hid (fun i k W => num4_any (S.extract i k) W (by have := ext_size S i k; omega))
  have HD : Hid (webD (bl S) = ⟨numR (bl (S.extract 0 4)), numR (bl (S.extract 5 7)), numR (bl (S.extract 8 10)), numR (bl (S.extract 11 13)), numR (bl (S.extract 14 16)), numR (bl (S.extract 17 19))⟩) := Lib.hid (by unfold webD; simp only [bl_mid, List.drop_zero, Nat.reduceSub])
  have HNy := Lib.hid (fun W => HN.out 0 4 W)
  have HNm := Lib.hid (fun W => HN.out 5 7 W)
  have HNd := Lib.hid (fun W => HN.out 8 10 W)
  have HNh_ := Lib.hid (fun W => HN.out 11 13 W)
  have HNmi := Lib.hid (fun W => HN.out 14 16 W)
  have HNs := Lib.hid (fun W => HN.out 17 19 W)
  clear HN
  generalize numR (bl (S.extract 0 4)) = y at *
  generalize numR (bl (S.extract 5 7)) = m at *
  generalize numR (bl (S.extract 8 10)) = d at *
  generalize numR (bl (S.extract 11 13)) = h_ at *
  generalize numR (bl (S.extract 14 16)) = mi at *
  generalize numR (bl (S.extract 17 19)) = s at *
  rw [HD.out] at HV1
  obtain ⟨r, hr⟩ : ∃ r, S.extract 19 S.size = r := ⟨_, rfl⟩
  have hbr : bl r = (bl S).drop 19 := by rw [← hr, bl_from]
  rw [← hbr] at HV1
  have hrs : r.size = S.size - 19 := by rw [← bl_len, hbr, List.length_drop, bl_len]
  have hr0 : 0 < r.size := by omega
  have hrle : r.size ≤ 100000 := by omega
  clear hbr hrs HD
  have HT := Lib.hid (fun z W => told4_any ⟨y, m, d, h_, mi, s⟩ z W)
  simp only [Dt.val, Dt.cells, znV] at HT
  have hres : znV (webR (bl S)) = znV (webR (bl S)) := rfl
  clear hres
  rcases b10 with b10 | b10
  all_goals
    go_enter Tryz.func112, Tryz.ntmps112
    go_wp2_with fail
    refine wp_region_seqTB w.heap.size (by kernel_rfl) [(0, true), (1, true), (2, true), (3, true), (4, true), (5, true), (6, true), (7, true), (8, true), (9, true), (10, true), (11, true), (12, true), (13, true), (14, true), (15, true), (16, true), (17, true), (18, true), (19, false), (20, false)] (by kernel_rfl) rfl (by kernel_rfl) ?_
    intro w0 hb0
    iterate 2 (refine wpSeqT_take (o := ⟨_, _, _, _, _, _⟩) (v := ?_) rfl rfl ?_ ?_; rotate_left; (focus (intro W hW; go_simp; first | done | with_reducible rfl)); simp only [Act.put, List.setIfInBounds_toArray, List.set_cons_zero, List.set_cons_succ])
    (refine wpSeqT_call (o := ⟨_, _, _, _, _, _⟩) rfl rfl (fun W hW => HNy.out W) ?_ ?_; (focus (intro W hW; go_simp; first | done | with_reducible rfl)); simp only [Act.put, List.setIfInBounds_toArray, List.set_cons_zero, List.set_cons_succ])
    iterate 2 (refine wpSeqT_take (o := ⟨_, _, _, _, _, _⟩) (v := ?_) rfl rfl ?_ ?_; rotate_left; (focus (intro W hW; go_simp; first | done | with_reducible rfl)); simp only [Act.put, List.setIfInBounds_toArray, List.set_cons_zero, List.set_cons_succ])
    (refine wpSeqT_call (o := ⟨_, _, _, _, _, _⟩) rfl rfl (fun W hW => HNm.out W) ?_ ?_; (focus (intro W hW; go_simp; first | done | with_reducible rfl)); simp only [Act.put, List.setIfInBounds_toArray, List.set_cons_zero, List.set_cons_succ])
    iterate 2 (refine wpSeqT_take (o := ⟨_, _, _, _, _, _⟩) (v := ?_) rfl rfl ?_ ?_; rotate_left; (focus (intro W hW; go_simp; first | done | with_reducible rfl)); simp only [Act.put, List.setIfInBounds_toArray, List.set_cons_zero, List.set_cons_succ])
    (refine wpSeqT_call (o := ⟨_, _, _, _, _, _⟩) rfl rfl (fun W hW => HNd.out W) ?_ ?_; (focus (intro W hW; go_simp; first | done | with_reducible rfl)); simp only [Act.put, List.setIfInBounds_toArray, List.set_cons_zero, List.set_cons_succ])
    iterate 2 (refine wpSeqT_take (o := ⟨_, _, _, _, _, _⟩) (v := ?_) rfl rfl ?_ ?_; rotate_left; (focus (intro W hW; go_simp; first | done | with_reducible rfl)); simp only [Act.put, List.setIfInBounds_toArray, List.set_cons_zero, List.set_cons_succ])
    (refine wpSeqT_call (o := ⟨_, _, _, _, _, _⟩) rfl rfl (fun W hW => HNh_.out W) ?_ ?_; (focus (intro W hW; go_simp; first | done | with_reducible rfl)); simp only [Act.put, List.setIfInBounds_toArray, List.set_cons_zero, List.set_cons_succ])
    iterate 2 (refine wpSeqT_take (o := ⟨_, _, _, _, _, _⟩) (v := ?_) rfl rfl ?_ ?_; rotate_left; (focus (intro W hW; go_simp; first | done | with_reducible rfl)); simp only [Act.put, List.setIfInBounds_toArray, List.set_cons_zero, List.set_cons_succ])
    (refine wpSeqT_call (o := ⟨_, _, _, _, _, _⟩) rfl rfl (fun W hW => HNmi.out W) ?_ ?_; (focus (intro W hW; go_simp; first | done | with_reducible rfl)); simp only [Act.put, List.setIfInBounds_toArray, List.set_cons_zero, List.set_cons_succ])
    iterate 2 (refine wpSeqT_take (o := ⟨_, _, _, _, _, _⟩) (v := ?_) rfl rfl ?_ ?_; rotate_left; (focus (intro W hW; go_simp; first | done | with_reducible rfl)); simp only [Act.put, List.setIfInBounds_toArray, List.set_cons_zero, List.set_cons_succ])
    (refine wpSeqT_call (o := ⟨_, _, _, _, _, _⟩) rfl rfl (fun W hW => HNs.out W) ?_ ?_; (focus (intro W hW; go_simp; first | done | with_reducible rfl)); simp only [Act.put, List.setIfInBounds_toArray, List.set_cons_zero, List.set_cons_succ])
    iterate 1 (refine wpSeqT_take (o := ⟨_, _, _, _, _, _⟩) (v := ?_) rfl rfl ?_ ?_; rotate_left; (focus (intro W hW; go_simp; first | done | with_reducible rfl)); simp only [Act.put, List.setIfInBounds_toArray, List.set_cons_zero, List.set_cons_succ])
    refine wpSeqT_exec (o := ⟨_, _, _, _, _, _⟩) rfl rfl (fun K hK => ?_)
    go_simp
    refine hK _ _ ((Below.refl _ _).alloc hb0.size _) ?_
    clear hK K
    refine wpSeqT_exec (o := ⟨_, _, _, _, _, _⟩) rfl rfl (fun K hK => ?_)
    go_simp
    refine hK _ _ (below_realloc4 _ _ hb0.size) ?_
    clear hK K
    refine wpSeqT_nil ?_
    have hE := Blk.new w0 80 #[.int .i64 y, .int .i64 m, .int .i64 d, .int .i64 h_, .int .i64 mi, .int .i64 s]
    have B1 := bel_alloc hb0 (.cells #[.int .i64 y, .int .i64 m, .int .i64 d, .int .i64 h_, .int .i64 mi, .int .i64 s] 80)
    obtain ⟨gd, hgd⟩ : ∃ gd, gd = w0.heap.size := ⟨_, rfl⟩
    rw [← hgd] at hE
    simp only [← hgd]
    generalize w0.alloc (.cells #[.int .i64 y, .int .i64 m, .int .i64 d, .int .i64 h_, .int .i64 mi, .int .i64 s] 80) = w1 at *
    clear hgd hb0 HNy HNm HNd HNh_ HNmi HNs
    have e0 := Blk.cell hE 0
    have e1 := Blk.cell hE 1
    have e2 := Blk.cell hE 2
    have e3 := Blk.cell hE 3
    have e4 := Blk.cell hE 4
    have e5 := Blk.cell hE 5
    simp at e0 e1 e2 e3 e4 e5
    by_cases hdot : (r[0]'hr0).toNat = 46
    case neg =>
      have HVZ : Hid (webR (bl S) = webZ ⟨y, m, d, h_, mi, s⟩ (bl r)) := Lib.hid (HV1.out.trans (by rw [restR_no hr0 hdot]))
      have t0 : (((r[0]'hr0).toNat : Int) == 46) = false := by simp; omega
      clear HV1
      by_cases z1 : bl r = [90]
      · have HV2 : Hid (webR (bl S) = toldR ⟨y, m, d, h_, mi, s⟩ 0) := Lib.hid (HVZ.out.trans (by rw [z1]; rfl))
        have hrr := ba_of_bl z1
        subst hrr
        clear HVZ z1
        go_wp2_with fail
        (with_reducible refine (HT.out 0 _ (by omega) (by omega)).mono ?_)
        rintro e w9 ⟨rfl, hb9⟩
        have B9 := bel_step B1 hb9
        clear hb9 B1 e0 e1 e2 e3 e4 e5
        go_wp2_with fail
        go_ret2
        rw [HV2.out]
        exact ⟨rfl, B9⟩
      by_cases z2 : bl r = [122]
      · have HV2 : Hid (webR (bl S) = toldR ⟨y, m, d, h_, mi, s⟩ 0) := Lib.hid (HVZ.out.trans (by rw [z2]; rfl))
        have hrr := ba_of_bl z2
        subst hrr
        clear HVZ z2 z1
        go_wp2_with fail
        (with_reducible refine (HT.out 0 _ (by omega) (by omega)).mono ?_)
        rintro e w9 ⟨rfl, hb9⟩
        have B9 := bel_step B1 hb9
        clear hb9 B1 e0 e1 e2 e3 e4 e5
        go_wp2_with fail
        go_ret2
        rw [HV2.out]
        exact ⟨rfl, B9⟩
      have f1 := toList_ne z1
      have f2 := toList_ne z2
      have f3 : (r.toList == [90]) = false := by simpa using f1
      have f4 : (r.toList == [122]) = false := by simpa using f2
      by_cases h6 : r.size = 6
      case neg =>
        have HV2 : Hid (webR (bl S) = none) := Lib.hid (HVZ.out.trans (webZ_len z1 z2 h6))
        clear HVZ z1 z2
        go_wp2_with fail
        go_ret2
        rw [HV2.out]
        exact ⟨rfl, B1⟩
      case pos =>
        have HV2 := Lib.hid (HVZ.out.trans (webZ_six z1 z2 h6))
        clear HVZ z1 z2
        by_cases h58 : (r[3]'(by omega)).toNat = 58
        case neg =>
          have HV3 : Hid (webR (bl S) = none) := Lib.hid (HV2.out.trans (if_pos h58))
          have t58 : (((r[3]'(by omega)).toNat : Int) == 58) = false := by simp; omega
          have t58b : (((r[3]'(by omega)).toNat : Int) != 58) = true := by simp; omega
          clear HV2
          go_wp2_with fail
          go_ret2
          rw [HV3.out]
          exact ⟨rfl, B1⟩
        case pos =>
          have HV3 := Lib.hid (HV2.out.trans (if_neg (fun h => h h58)))
          have HZ := Lib.hid (fun W => zone4_any (r[0]'(by omega)) (r.extract 1 3) (r.extract 4 6) W (by have := ext_size r 1 3; omega) (by have := ext_size r 4 6; omega))
          clear HV2
          have hzb := fun z => zoneR_bd (c := r[0]'(by omega)) (h := bl (r.extract 1 3)) (m := bl (r.extract 4 6)) (z := z)
          generalize zoneR (r[0]'(by omega)) (bl (r.extract 1 3)) (bl (r.extract 4 6)) = zz at *
          cases zz with
          | none =>
            simp only [znV, Option.getD_none, Option.isSome_none] at HZ
            clear hzb
            go_wp2_with fail
            go_quiet ((go_at_call 131; exact quiet_same (HZ.out _)))
            go_wp2_with fail
            go_ret2
            rw [HV3.out]
            exact ⟨rfl, bel_drewN B1 _⟩
          | some z =>
            have hz := hzb z rfl
            simp only [znV, Option.getD_some, Option.isSome_some] at HZ
            clear hzb
            go_wp2_with fail
            go_quiet ((go_at_call 131; exact quiet_same (HZ.out _)))
            go_wp2_with fail
            (with_reducible refine (HT.out z _ hz.1 hz.2).mono ?_)
            rintro e w9 ⟨rfl, hb9⟩
            clear e0 e1 e2 e3 e4 e5
            go_wp2_with fail
            go_ret2
            rw [HV3.out]
            exact ⟨rfl, bel_step (bel_drewN B1 _) hb9⟩
    case pos =>
      have HR := Lib.hid (restR_dot hr0 hdot)
      go_wp2_with fail
      go_loop [6] (fun i => ∃ k : Nat, i = .int .i64 (k : Int) ∧ 1 ≤ k ∧ k ≤ r.size ∧ Hid (runL ((bl r).drop 1) + 1 = k + runL ((bl r).drop k))) (fun i => r.size - (intOf i).toNat)
      case atStart => exact ⟨1, rfl, by omega, by omega, Lib.hid (by omega)⟩
      case round =>
        obtain ⟨k, rfl, hk1, hk2, HK⟩ := hrel
        have hend : k < r.size ∧ (∃ hk : k < r.size, digB (r[k]'hk) = true) ∨ runL ((bl r).drop k) = 0 := by
          by_cases hk : k < r.size
          · cases hdg : digB (r[k]'hk) with
            | true => exact .inl ⟨hk, hk, hdg⟩
            | false =>
              right
              have h1 := drop_atH hk
              rw [h1]
              simp [runL, hdg]
          · right
            rw [List.drop_eq_nil_of_le (by rw [bl_len]; omega)]
            try rfl
        rcases hend with ⟨hkl, hk, hdg⟩ | hz
        · have hst : runL ((bl r).drop k) = runL ((bl r).drop (k + 1)) + 1 := by
            have h1 := drop_atH hk
            rw [h1]
            simp [runL, hdg]
          have HN : Hid (runL ((bl r).drop 1) + 1 = (k + 1) + runL ((bl r).drop (k + 1))) := Lib.hid (by have := HK.out; omega)
          have hix := fun W => str_at r k W hk
          generalize (r[k]'hk) = u at *
          have hd' := hdg
          unfold digB at hd'
          simp at hd'
          have t1 : decide ((48 : Int) ≤ ((u.toNat : Nat) : Int)) = true := by simp; omega
          have t2 : decide (((u.toNat : Nat) : Int) ≤ (57 : Int)) = true := by simp; omega
          clear hst hdg hd' HK
          go_wp2_with fail
          go_round
          case rel => exact ⟨k + 1, by go_num, by omega, by omega, HN⟩
          case measure => simp [intOf]; omega
        · have hK : runL ((bl r).drop 1) + 1 = k := by have := HK.out; omega
          have hlast : k = r.size ∨ ∃ hk : k < r.size, digB (r[k]'hk) = false := by
            by_cases hk : k < r.size
            · right
              refine ⟨hk, ?_⟩
              cases hdg : digB (r[k]'hk) with
              | false => rfl
              | true =>
                exfalso
                have h1 := drop_atH hk
                rw [h1] at hz
                simp [runL, hdg] at hz
            · left; omega
          clear hz HK
          by_cases hgood : 2 ≤ k ∧ k ≤ 10
          case neg =>
            have HV2 : Hid (webR (bl S) = none) := Lib.hid (HV1.out.trans (by rw [HR.out, if_neg (by omega)]))
            have hkk : k < 2 ∨ 10 < k := by omega
            clear HR HV1 hK hgood
            rcases hlast with rfl | ⟨hk, hdg⟩
            · rcases hkk with hkk | hkk
              all_goals
                go_wp2_with fail
                go_ret2
                rw [HV2.out]
                exact ⟨rfl, B1⟩
            · have hix := fun W => str_at r k W hk
              generalize (r[k]'hk) = u at *
              have hd' : u.toNat < 48 ∨ 57 < u.toNat := by unfold digB at hdg; simp at hdg; omega
              clear hdg
              by_cases u1 : u.toNat < 48
              · have t1 : decide ((48 : Int) ≤ ((u.toNat : Nat) : Int)) = false := by simp; omega
                rcases hkk with hkk | hkk
                all_goals
                  go_wp2_with fail
                  go_ret2
                  rw [HV2.out]
                  exact ⟨rfl, B1⟩
              · have t1 : decide ((48 : Int) ≤ ((u.toNat : Nat) : Int)) = true := by simp; omega
                have t2 : decide (((u.toNat : Nat) : Int) ≤ (57 : Int)) = false := by simp; omega
                rcases hkk with hkk | hkk
                all_goals
                  go_wp2_with fail
                  go_ret2
                  rw [HV2.out]
                  exact ⟨rfl, B1⟩
          case pos =>
            obtain ⟨q, hq⟩ : ∃ q, r.extract k r.size = q := ⟨_, rfl⟩
            have hbq : bl q = (bl r).drop k := by rw [← hq, bl_from]
            have hqs : q.size ≤ 100000 := by rw [← hq]; exact Nat.le_trans (ext_size _ _ _) hrle
            have HVZ : Hid (webR (bl S) = webZ ⟨y, m, d, h_, mi, s⟩ (bl q)) := Lib.hid (HV1.out.trans (by
              rw [HR.out, if_pos (by omega), List.drop_drop, hbq, show 1 + runL ((bl r).drop 1) = k by omega]))
            have hk2' : (k : Int) ≤ r.size := by omega
            obtain ⟨hg1, hg2⟩ := hgood
            clear HR HV1 hK hbq
            have hcases : (k = r.size) ∨ (∃ u : UInt8, k < r.size ∧ (∀ W, (Instr.index 9 (.string r) (.int .i64 (k : Int))).run Tryz.prog W = .ok (.int .u8 ((u.toNat : Nat) : Int)) W) ∧ decide ((48 : Int) ≤ ((u.toNat : Nat) : Int)) = false) ∨ (∃ u : UInt8, k < r.size ∧ (∀ W, (Instr.index 9 (.string r) (.int .i64 (k : Int))).run Tryz.prog W = .ok (.int .u8 ((u.toNat : Nat) : Int)) W) ∧ decide ((48 : Int) ≤ ((u.toNat : Nat) : Int)) = true ∧ decide (((u.toNat : Nat) : Int) ≤ (57 : Int)) = false) := by
              rcases hlast with h1 | ⟨hk, hdg⟩
              · exact .inl h1
              · have hix := fun W => str_at r k W hk
                generalize (r[k]'hk) = u at *
                have hd' : u.toNat < 48 ∨ 57 < u.toNat := by unfold digB at hdg; simp at hdg; omega
                by_cases u1 : u.toNat < 48
                · exact .inr (.inl ⟨u, hk, hix, by simp; omega⟩)
                · exact .inr (.inr ⟨u, hk, hix, by simp; omega, by simp; omega⟩)
            clear hlast
            rcases hcases with rfl | ⟨u, hk, hix, t1⟩ | ⟨u, hk, hix, t1, t2⟩
            · have HV2 : Hid (webR (bl S) = none) := Lib.hid (HVZ.out.trans (by rw [← hq, bl_from, List.drop_eq_nil_of_le (by rw [bl_len]; omega)]; rfl))
              clear HVZ
              go_wp2_with fail
              go_ret2
              rw [HV2.out]
              exact ⟨rfl, B1⟩
            all_goals
              by_cases z1 : bl q = [90]
              · have HV2 : Hid (webR (bl S) = toldR ⟨y, m, d, h_, mi, s⟩ 0) := Lib.hid (HVZ.out.trans (by rw [z1]; rfl))
                have hrr := ba_of_bl z1
                subst hrr
                clear HVZ z1
                go_wp2_with fail
                (with_reducible refine (HT.out 0 _ (by omega) (by omega)).mono ?_)
                rintro e w9 ⟨rfl, hb9⟩
                have B9 := bel_step B1 hb9
                clear hb9 B1 e0 e1 e2 e3 e4 e5
                go_wp2_with fail
                go_ret2
                rw [HV2.out]
                exact ⟨rfl, B9⟩
              by_cases z2 : bl q = [122]
              · have HV2 : Hid (webR (bl S) = toldR ⟨y, m, d, h_, mi, s⟩ 0) := Lib.hid (HVZ.out.trans (by rw [z2]; rfl))
                have hrr := ba_of_bl z2
                subst hrr
                clear HVZ z2 z1
                go_wp2_with fail
                (with_reducible refine (HT.out 0 _ (by omega) (by omega)).mono ?_)
                rintro e w9 ⟨rfl, hb9⟩
                have B9 := bel_step B1 hb9
                clear hb9 B1 e0 e1 e2 e3 e4 e5
                go_wp2_with fail
                go_ret2
                rw [HV2.out]
                exact ⟨rfl, B9⟩
              have f1 := toList_ne z1
              have f2 := toList_ne z2
              have f3 : (q.toList == [90]) = false := by simpa using f1
              have f4 : (q.toList == [122]) = false := by simpa using f2
              by_cases h6 : q.size = 6
              case neg =>
                have HV2 : Hid (webR (bl S) = none) := Lib.hid (HVZ.out.trans (webZ_len z1 z2 h6))
                clear HVZ z1 z2
                go_wp2_with fail
                go_ret2
                rw [HV2.out]
                exact ⟨rfl, B1⟩
              case pos =>
                have HV2 := Lib.hid (HVZ.out.trans (webZ_six z1 z2 h6))
                clear HVZ z1 z2
                by_cases h58 : (q[3]'(by omega)).toNat = 58
                case neg =>
                  have HV3 : Hid (webR (bl S) = none) := Lib.hid (HV2.out.trans (if_pos h58))
                  have t58 : (((q[3]'(by omega)).toNat : Int) == 58) = false := by simp; omega
                  have t58b : (((q[3]'(by omega)).toNat : Int) != 58) = true := by simp; omega
                  clear HV2
                  go_wp2_with fail
                  go_ret2
                  rw [HV3.out]
                  exact ⟨rfl, B1⟩
                case pos =>
                  have HV3 := Lib.hid (HV2.out.trans (if_neg (fun h => h h58)))
                  have HZ := Lib.hid (fun W => zone4_any (q[0]'(by omega)) (q.extract 1 3) (q.extract 4 6) W (by have := ext_size q 1 3; omega) (by have := ext_size q 4 6; omega))
                  clear HV2
                  have hzb := fun z => zoneR_bd (c := q[0]'(by omega)) (h := bl (q.extract 1 3)) (m := bl (q.extract 4 6)) (z := z)
                  generalize zoneR (q[0]'(by omega)) (bl (q.extract 1 3)) (bl (q.extract 4 6)) = zz at *
                  cases zz with
                  | none =>
                    simp only [znV, Option.getD_none, Option.isSome_none] at HZ
                    clear hzb
                    go_wp2_with fail
                    go_quiet ((go_at_call 131; exact quiet_same (HZ.out _)))
                    go_wp2_with fail
                    go_ret2
                    rw [HV3.out]
                    exact ⟨rfl, bel_drewN B1 _⟩
                  | some z =>
                    have hz := hzb z rfl
                    simp only [znV, Option.getD_some, Option.isSome_some] at HZ
                    clear hzb
                    go_wp2_with fail
                    go_quiet ((go_at_call 131; exact quiet_same (HZ.out _)))
                    go_wp2_with fail
                    (with_reducible refine (HT.out z _ hz.1 hz.2).mono ?_)
                    rintro e w9 ⟨rfl, hb9⟩
                    clear e0 e1 e2 e3 e4 e5
                    go_wp2_with fail
                    go_ret2
                    rw [HV3.out]
                    exact ⟨rfl, bel_step (bel_drewN B1 _) hb9⟩

end Go.Proofs.YtjjlmkleidbmhaaGreatDoor
end
section
namespace Go.Proofs.YtjjlmkleidbmhaaGreatDoor
open Go.ChangeShapes Go.WideShapes Go.ChangeAt Go.Deep
open Go.RowKit Go.Nst
set_option maxRecDepth 100000
set_option linter.unusedVariables false
set_option linter.unusedSimpArgs false

theorem num_val : ∀ (t : List UInt8) (a : Nat), t.all digB = true → ((t.foldl (fun n c => 10 * n + (c.toNat - 48)) a : Nat) : Int) = t.foldl (fun n c => 10 * n + ((c.toNat : Int) - 48)) (a : Int)
  | [], a, _ => rfl
  | c :: t, a, h => by
    simp only [List.all_cons, Bool.and_eq_true] at h
    have hd := h.1
    unfold digB at hd
    simp at hd
    rw [List.foldl_cons, List.foldl_cons, num_val t _ h.2]
    congr 1
    omega
theorem numD_yes {t : List UInt8} (h1 : 1 ≤ t.length) (h7 : t.length ≤ 7) (hh : t.length = 1 ∨ t.head? ≠ some 48) (hd : t.all digB = true) : numD t = numL t := by
  unfold numD
  rw [if_neg (by rintro (h | h | ⟨h, h'⟩) <;> rcases hh with hh | hh <;> first | omega | exact hh h'), if_pos (show t.all dqB = true from hd)]
  exact num_val t 0 hd
theorem numD_not {t : List UInt8} (hd : t.all digB = false) : numD t = -1 := by
  unfold numD
  split
  · rfl
  · rw [if_neg (by rw [show t.all dqB = t.all digB from rfl, hd]; decide)]
set_option maxHeartbeats 4000000 in
theorem rnum26_any (s : ByteArray) (w : World) (hs : s.size ≤ 512) :
    Calls Tryz.prog 91 #[.string s] w fun e w' => e = .returned (.int .i64 (numD (bl s))) ∧ w' = w := by
  have hlen := bl_len s
  by_cases h0 : s.size = 0
  · have hV : Hid (numD (bl s) = -1) := Lib.hid (by unfold numD; rw [if_pos (.inl (by omega))])
    have d1 : decide ((s.size : Int) < 1) = true := by simp; omega
    have d1' : decide (s.size < 1) = true := decide_eq_true (by omega)
    clear h0 hlen
    go_enter Tryz.func91, Tryz.ntmps91
    go_wp2_with fail
    go_ret
    rw [hV.out]
    exact ⟨rfl, rfl⟩
  have d1 : decide ((s.size : Int) < 1) = false := by simp; omega
  have d1' : decide (s.size < 1) = false := decide_eq_false (by omega)
  by_cases h7 : 7 < s.size
  · have hV : Hid (numD (bl s) = -1) := Lib.hid (by unfold numD; rw [if_pos (.inr (.inl (by omega)))])
    have d2 : decide ((7 : Int) < (s.size : Int)) = true := by simp; omega
    have d2' : decide (7 < s.size) = true := by simp; omega
    clear h0 hlen h7
    go_enter Tryz.func91, Tryz.ntmps91
    go_wp2_with fail
    go_ret
    rw [hV.out]
    exact ⟨rfl, rfl⟩
  have d2 : decide ((7 : Int) < (s.size : Int)) = false := by simp; omega
  have d2' : decide (7 < s.size) = false := by simp; omega
  have hix0 := fun W => str_at s 0 W (by omega)
  have hg0 := bl_get s 0 (by omega)
  have hu0 := (s[0]'(by omega)).toNat_lt
  generalize s[0]'(by omega) = u0 at *
  simp only [Int.natCast_zero] at hix0
  have hhd : (bl s).head? = some u0 := by rw [List.head?_eq_getElem?]; exact hg0
  by_cases h1 : 1 < s.size ∧ u0.toNat = 48
  · have hV : Hid (numD (bl s) = -1) := Lib.hid (by
      unfold numD
      rw [if_pos (.inr (.inr ⟨by omega, by rw [hhd]; exact congrArg some (UInt8.toNat_inj.1 h1.2)⟩))])
    obtain ⟨h1, h2⟩ := h1
    have d3 : decide ((1 : Int) < (s.size : Int)) = true := by simp; omega
    have d3' : decide (1 < s.size) = true := by simp; omega
    have d4 : (((u0.toNat : Nat) : Int) == 48) = true := by rw [beq_iff_eq]; omega
    clear h0 hlen h7 hg0 hhd h1 h2
    go_enter Tryz.func91, Tryz.ntmps91
    go_wp2_with fail
    go_ret
    rw [hV.out]
    exact ⟨rfl, rfl⟩
  have HHD : Hid ((bl s).length = 1 ∨ (bl s).head? ≠ some 48) := Lib.hid (by
    by_cases e1 : s.size = 1
    · exact .inl (by omega)
    · refine .inr ?_
      rw [hhd]
      intro e
      injection e with e
      subst e
      exact h1 ⟨by omega, rfl⟩)
  have hpow : ∀ k : Nat, k ≤ 7 → (10 : Int) ^ k ≤ 10000000 := by
    intro k hk
    rcases (by omega : k = 0 ∨ k = 1 ∨ k = 2 ∨ k = 3 ∨ k = 4 ∨ k = 5 ∨ k = 6 ∨ k = 7) with rfl | rfl | rfl | rfl | rfl | rfl | rfl | rfl <;> decide
  have HPW := Lib.hid hpow
  have HL := Lib.hid hlen
  have hb1 : (((u0.toNat : Nat) : Int) == 48) = decide (u0.toNat = 48) := by
    rw [Bool.eq_iff_iff, beq_iff_eq, decide_eq_true_eq]
    omega
  have hsz : 1 ≤ s.size ∧ s.size ≤ 7 := ⟨by omega, by omega⟩
  have hcase : (decide ((1 : Int) < (s.size : Int)) = false ∧ decide (1 < s.size) = false) ∨ ((decide ((1 : Int) < (s.size : Int)) = true ∧ decide (1 < s.size) = true) ∧ (((u0.toNat : Nat) : Int) == 48) = false) := by
    by_cases e1 : 1 < s.size
    · refine .inr ⟨⟨by simp; omega, by simpa using e1⟩, ?_⟩
      rw [hb1]
      simp
      intro e
      exact h1 ⟨e1, e⟩
    · exact .inl ⟨by simp; omega, by simpa using e1⟩
  clear hpow hlen h0 h7 h1 hg0 hhd hb1
  rcases hcase with ⟨d3, d3'⟩ | ⟨⟨d3, d3'⟩, d4⟩
  all_goals
    go_enter Tryz.func91, Tryz.ntmps91
    go_wp2_with fail
    clear hix0
    go_loop [3, 4] (fun v i => ∃ k : Nat, i = .int .i64 (k : Int) ∧ v = .int .i64 (numL ((bl s).take k)) ∧ k ≤ s.size ∧ Hid (((bl s).take k).all digB = true)) (fun _ i => s.size - (intOf i).toNat)
    case atStart => exact ⟨0, rfl, rfl, by omega, Lib.hid rfl⟩
    case round =>
      obtain ⟨k, rfl, rfl, hk, HA⟩ := hrel
      have hb0 := numL_in HA.out
      have hb1 := HPW.out k (by omega)
      have htl : ((bl s).take k).length = k := by rw [List.length_take, HL.out]; omega
      rw [htl] at hb0
      clear htl
      by_cases hlt : k < s.size
      · have hix := fun W => str_at s k W hlt
        have hg := bl_get s k hlt
        have hu := (s[k]'hlt).toNat_lt
        generalize s[k]'hlt = u at *
        have hsn : (bl s).take (k + 1) = (bl s).take k ++ [u] := by
          rw [List.take_add_one, hg]; rfl
        have HS := Lib.hid hsn
        have HM : Hid (u ∈ bl s) := Lib.hid (List.mem_of_getElem? hg)
        clear hsn hg
        by_cases hd : digB u = true
        · have hd' := hd
          unfold digB at hd'
          simp at hd'
          have t1 : decide (((u.toNat : Nat) : Int) < 48) = false := by simp; omega
          have t2 : decide ((57 : Int) < ((u.toNat : Nat) : Int)) = false := by simp; omega
          have q1 : IntKind.u8.wrap (((u.toNat : Nat) : Int) - 48) = ((u.toNat : Nat) : Int) - 48 := IntWalk.u8_in _ (by omega)
          have q2 : IntKind.i64.wrap (10 * numL ((bl s).take k)) = 10 * numL ((bl s).take k) := IntWalk.i64_in _ (by omega)
          have q3 : IntKind.i64.wrap (10 * numL ((bl s).take k) + (((u.toNat : Nat) : Int) - 48)) = 10 * numL ((bl s).take k) + (((u.toNat : Nat) : Int) - 48) := IntWalk.i64_in _ (by omega)
          have q4 : IntKind.i64.wrap (((u.toNat : Nat) : Int) - 48) = ((u.toNat : Nat) : Int) - 48 := IntWalk.i64_in _ (by omega)
          have HN : Hid (numL ((bl s).take (k + 1)) = 10 * numL ((bl s).take k) + (((u.toNat : Nat) : Int) - 48) ∧ ((bl s).take (k + 1)).all digB = true) := Lib.hid (by
            rw [HS.out, numL_snoc, List.all_append, HA.out]
            exact ⟨rfl, by simp [hd]⟩)
          generalize numL ((bl s).take k) = x at *
          clear hd hd' HA HM
          go_wp2_with fail
          go_round
          case rel => exact ⟨k + 1, by go_num, by rw [HN.out.1], by omega, Lib.hid HN.out.2⟩
          case measure => simp [intOf]; omega
        · have hd' : u.toNat < 48 ∨ 57 < u.toNat := by unfold digB at hd; simp at hd; omega
          have HV : Hid (numD (bl s) = -1) := Lib.hid (numD_not (by
            cases ha : (bl s).all digB with
            | false => rfl
            | true => exact absurd (List.all_eq_true.1 ha u HM.out) hd))
          clear hd HA HM
          generalize numL ((bl s).take k) = x at *
          go_wp2_with fail
          all_goals (go_ret; rw [HV.out]; exact ⟨rfl, rfl⟩)
      · obtain rfl : k = s.size := by omega
        have hfull : (bl s).take s.size = bl s := List.take_of_length_le (by rw [HL.out]; omega)
        have HV : Hid (numD (bl s) = numL ((bl s).take s.size)) := Lib.hid (by rw [hfull] at HA ⊢; exact numD_yes (by rw [HL.out]; omega) (by rw [HL.out]; omega) HHD.out HA.out)
        clear hfull HA
        generalize numL ((bl s).take s.size) = x at *
        go_wp2_with fail
        go_ret
        rw [HV.out]
        exact ⟨rfl, rfl⟩
theorem rmom26_any (s : List UInt8) (w : World) (hs : s.length ≤ 512) : Calls Tryz.prog 92 #[.string ⟨s.toArray⟩] w fun e w' => e = .returned (.tuple #[.int .i64 ((momT s).getD 0), .bool (momT s).isSome]) ∧ Below w.heap.size w w' := by
  have hz : (ByteArray.mk s.toArray).size = s.length := size_of s
  by_cases h10 : s.length = 10
  · have HC := web4_any ⟨(s ++ tailZ).toArray⟩ w (by rw [size_of]; simp [tailZ]; omega)
    rw [bl_of] at HC
    have HM : Hid (momT s = webR (s ++ tailZ)) := Lib.hid (by unfold momT; rw [if_pos h10])
    rw [← HM.out, ← ba_app26] at HC
    have HC := Lib.hid HC
    generalize momT s = o at *
    simp only [tailZ, znV] at HC
    have d1 : ((s.length : Int) == 10) = true := by rw [beq_iff_eq]; omega
    cases o with
    | none =>
      go_enter Tryz.func92, Tryz.ntmps92
      go_wp2_with fail
      (with_reducible refine (HC.out).mono ?_)
      rintro _ w1 ⟨rfl, hb1⟩
      go_wp2_with fail
      go_ret2
      exact ⟨rfl, hb1⟩
    | some n =>
      go_enter Tryz.func92, Tryz.ntmps92
      go_wp2_with fail
      (with_reducible refine (HC.out).mono ?_)
      rintro _ w1 ⟨rfl, hb1⟩
      go_wp2_with fail
      go_ret2
      exact ⟨rfl, hb1⟩
  · have HC := web4_any ⟨s.toArray⟩ w (by omega)
    rw [bl_of] at HC
    have HM : Hid (momT s = webR s) := Lib.hid (by unfold momT; rw [if_neg h10])
    rw [← HM.out] at HC
    have HC := Lib.hid HC
    generalize momT s = o at *
    simp only [znV] at HC
    have d1 : ((s.length : Int) == 10) = false := by rw [beq_eq_false_iff_ne]; omega
    cases o with
    | none =>
      go_enter Tryz.func92, Tryz.ntmps92
      go_wp2_with fail
      (with_reducible refine (HC.out).mono ?_)
      rintro _ w1 ⟨rfl, hb1⟩
      go_wp2_with fail
      go_ret2
      exact ⟨rfl, hb1⟩
    | some n =>
      go_enter Tryz.func92, Tryz.ntmps92
      go_wp2_with fail
      (with_reducible refine (HC.out).mono ?_)
      rintro _ w1 ⟨rfl, hb1⟩
      go_wp2_with fail
      go_ret2
      exact ⟨rfl, hb1⟩
theorem behind26_short (S P : ByteArray) (w : World) (k m : Nat) (hk : P.size = k) (hm : S.size = m) (d1 : decide ((m : Int) < (k : Int)) = true) (d1' : decide (m < k) = true) :
    Calls Tryz.prog 90 #[.string S, .string P] w fun e w' => e = .returned (.tuple #[.string ⟨#[]⟩, .bool false]) ∧ w' = w := by
  go_enter Tryz.func90, Tryz.ntmps90
  go_wp2_with fail
  go_ret2
  exact ⟨rfl, rfl⟩
theorem behind26_else (S P : ByteArray) (w : World) (k m : Nat) (hk : P.size = k) (hm : S.size = m) (d1 : decide ((m : Int) < (k : Int)) = false) (d1' : decide (m < k) = false) (h2 : k ≤ m) (he : ((S.extract 0 k).toList == P.toList) = false) :
    Calls Tryz.prog 90 #[.string S, .string P] w fun e w' => e = .returned (.tuple #[.string ⟨#[]⟩, .bool false]) ∧ w' = w := by
  go_enter Tryz.func90, Tryz.ntmps90
  go_wp2_with fail
  go_ret2
  exact ⟨rfl, rfl⟩
theorem behind26_same (S P : ByteArray) (w : World) (k m : Nat) (hk : P.size = k) (hm : S.size = m) (d1 : decide ((m : Int) < (k : Int)) = false) (d1' : decide (m < k) = false) (h2 : k ≤ m) (he : ((S.extract 0 k).toList == P.toList) = true) :
    Calls Tryz.prog 90 #[.string S, .string P] w fun e w' => e = .returned (.tuple #[.string (S.extract k m), .bool true]) ∧ w' = w := by
  go_enter Tryz.func90, Tryz.ntmps90
  go_wp2_with fail
  go_ret2
  exact ⟨rfl, rfl⟩
theorem behind26_raw (S P : ByteArray) (w : World) (b : Bool) (hb : b = (decide (P.size ≤ S.size) && ((S.extract 0 P.size).toList == P.toList))) :
    Calls Tryz.prog 90 #[.string S, .string P] w fun e w' => e = .returned (.tuple #[.string (if b = true then S.extract P.size S.size else ⟨#[]⟩), .bool b]) ∧ w' = w := by
  by_cases h1 : S.size < P.size
  · have hb : b = false := by rw [hb, show decide (P.size ≤ S.size) = false from decide_eq_false (by omega)]; rfl
    subst hb
    exact behind26_short S P w _ _ rfl rfl (decide_eq_true (by omega)) (decide_eq_true h1)
  · have h2 : P.size ≤ S.size := by omega
    have hb : b = ((S.extract 0 P.size).toList == P.toList) := by rw [hb, show decide (P.size ≤ S.size) = true from decide_eq_true h2, Bool.true_and]
    cases b with
    | true => exact behind26_same S P w _ _ rfl rfl (decide_eq_false (by omega)) (decide_eq_false h1) h2 hb.symm
    | false => exact behind26_else S P w _ _ rfl rfl (decide_eq_false (by omega)) (decide_eq_false h1) h2 hb.symm
theorem stp_no26 {p s : List UInt8} (h : stp p s = none) : (decide (p.length ≤ s.length) && (((ByteArray.mk s.toArray).extract 0 (ByteArray.mk p.toArray).size).toList == (ByteArray.mk p.toArray).toList)) = false := by
  cases h1 : decide (p.length ≤ s.length) with
  | false => rfl
  | true =>
    rw [Bool.true_and]
    have h1 : p.length ≤ s.length := by simpa using h1
    cases h2 : (((ByteArray.mk s.toArray).extract 0 (ByteArray.mk p.toArray).size).toList == (ByteArray.mk p.toArray).toList) with
    | false => rfl
    | true =>
      exfalso
      rw [beq_iff_eq, ext_run (bl_of s) 0 _ (by omega) (by rw [size_of, size_of]; exact h1), size_of, List.drop_zero, Nat.sub_zero, bl_toList, bl_toList, bl_of, bl_of] at h2
      unfold stp at h
      rw [if_pos (by rw [List.isPrefixOf_iff_prefix, ← h2]; exact List.take_prefix _ _)] at h
      cases h
theorem stp_yes26 {p s t : List UInt8} (h : stp p s = some t) : s = p ++ t := by
  unfold stp at h
  split at h
  · rename_i hp
    injection h with h
    rw [List.isPrefixOf_iff_prefix] at hp
    obtain ⟨u, hu⟩ := hp
    subst hu
    rw [← h]
    simp
  · cases h
theorem behind26_no (s p : List UInt8) (hs : s.length ≤ 512) (hp : p.length ≤ 20) (h : stp p s = none) (w : World) : Calls Tryz.prog 90 #[.string ⟨s.toArray⟩, .string ⟨p.toArray⟩] w fun e w' => e = .returned (.tuple #[.string ⟨#[]⟩, .bool false]) ∧ w' = w :=
  (behind26_raw ⟨s.toArray⟩ ⟨p.toArray⟩ w false (by rw [← stp_no26 h, size_of, size_of])).mono fun e w' ⟨he, hw⟩ => ⟨he, hw⟩
theorem behind26_yes (s p t : List UInt8) (hs : s.length ≤ 512) (hp : p.length ≤ 20) (h : stp p s = some t) (w : World) : Calls Tryz.prog 90 #[.string ⟨s.toArray⟩, .string ⟨p.toArray⟩] w fun e w' => e = .returned (.tuple #[.string ⟨t.toArray⟩, .bool true]) ∧ w' = w := by
  have e := stp_yes26 h
  have hl : p.length ≤ s.length := by rw [e]; simp
  have h0 : (ByteArray.mk s.toArray).extract 0 (ByteArray.mk p.toArray).size = ByteArray.mk p.toArray := by
    rw [ext_run (bl_of s) 0 _ (by omega) (by rw [size_of, size_of]; exact hl), size_of, List.drop_zero, Nat.sub_zero, e]
    simp
  have h1 : (ByteArray.mk s.toArray).extract (ByteArray.mk p.toArray).size (ByteArray.mk s.toArray).size = ByteArray.mk t.toArray := by
    rw [ext_run (bl_of s) _ _ (by rw [size_of, size_of]; exact hl) (Nat.le_refl _), size_of, size_of, e]
    simp
  have := behind26_raw ⟨s.toArray⟩ ⟨p.toArray⟩ w true (by rw [h0, size_of, size_of]; simp [hl])
  rw [if_pos rfl, h1] at this
  exact this
end Go.Proofs.YtjjlmkleidbmhaaGreatDoor
end
