/-
  The document's open.
-/
import Derived.Test.YtjmmgekildlckaaXmU
namespace Go.Proofs.Ytjmmgekildlckaa
open Go.RowKit Go.Nst
set_option maxRecDepth 100000
set_option linter.unusedVariables false
set_option linter.unusedSimpArgs false

set_option maxHeartbeats 8000000 in
theorem refOpen8_any (l : List UInt8) (w : World) (hl : l.length ≤ 100000) : Calls Try.prog 46 #[.string ⟨l.toArray⟩] w (RetTS w (openN l)) := by
  have HN := Lib.hid (fun W => refName8_any l W (by omega))
  unfold openN
  cases hn : nameD l with
  | none =>
    have hr : nameR l = ([], l) := by unfold nameR; rw [hn]
    rw [hr] at HN
    simp only at HN ⊢
    clear hn hr
    go_enter Try.func46, Try.ntmps46
    go_wp2_with fail
    (with_reducible refine (HN.out _).mono ?_)
    rintro e w1 ⟨rfl, hb⟩
    have B1 := bel_alloc hb (.cells #[.int .i64 1, .string ⟨#[]⟩, .slice none 0 0, .string ⟨#[]⟩] 68)
    clear hb
    go_wp2_with fail
    go_loopw [] (fun wr => Below w.heap.size w wr) (fun _ => 0)
    case atStart => exact B1
    case round =>
      go_wp2_with fail
      go_ret3
      exact ⟨hrel, none, 0, 0, _, rfl⟩
  | some x =>
    obtain ⟨n, r⟩ := x
    have hr : nameR l = (n, r) := by unfold nameR; rw [hn]
    have hnl := nameD_len hn
    have hn0 := hnl.2.1
    have hn1 : n.length ≤ 100000 := by omega
    have hrl : r.length ≤ 100000 := by omega
    have hne1 : n.isEmpty = false := by cases n with | nil => simp at hn0 | cons a b => rfl
    have hne2 : ¬ n = [] := by simpa using hne1
    have hne3 : ((⟨n.toArray⟩ : ByteArray) == ⟨#[]⟩) = false := by cases n with | nil => simp at hn0 | cons a b => rfl
    rw [hr] at HN
    simp only at HN ⊢
    clear hn hr hnl hn0
    have HT : Hid (openD n 32 [] r = openD n 32 [] r) := rfl
    generalize htt : openD n 32 [] r = tot at *
    have HTT := Lib.hid htt.symm
    clear htt HT
    go_enter Try.func46, Try.ntmps46
    go_wp2_with fail
    (with_reducible refine (HN.out _).mono ?_)
    rintro e w1 ⟨rfl, hb⟩
    have hsz1 := hb.size
    obtain ⟨k, hk⟩ : ∃ k, w1.heap.size = k := ⟨_, rfl⟩
    have F0 : Hid (OpR w (w1.alloc (.cells #[.int .i64 1, .string ⟨n.toArray⟩, .slice none 0 0, .string ⟨#[]⟩] 68)) k n none 0 0 []) := Lib.hid ⟨hk ▸ Blk.new w1 _ _, RwO.nil, hk ▸ hsz1, bel_alloc hb _⟩
    rw [hk] at hsz1
    clear hb
    go_wp2_with fail
    go_loopw [6] (fun v wr => ∃ (ats : List Xat) (A : Option Addr) (m c : Nat) (l2 : List UInt8), v = .string ⟨l2.toArray⟩ ∧ Hid (OpR w wr k n A m c ats) ∧ m ≤ 32 ∧ l2.length ≤ 100000 ∧ Hid (tot = openD n (32 - m) ats l2)) (fun v _ => strL (some v))
    case atStart => exact ⟨[], none, 0, 0, r, rfl, F0, by omega, hrl, HTT⟩
    case round =>
      obtain ⟨ats, A, m, c, l2, rfl, HF, hm32, hl2, HO⟩ := hrel
      clear HTT F0
      have ld := dropW_len blkB l2
      have HB := Lib.hid (fun W => refBlanks8_any l2 W (by omega))
      have H62 := Lib.hid (fun W => refHas8_any (l2.dropWhile blkB) [62] W (by omega) (by simp))
      have H47 := Lib.hid (fun W => refHas8_any (l2.dropWhile blkB) [47, 62] W (by omega) (by simp))
      have hx : ∀ j, (ByteArray.mk (l2.dropWhile blkB).toArray).extract j (l2.dropWhile blkB).length = ⟨((l2.dropWhile blkB).drop j).toArray⟩ := fun j => xstr_drop _ j
      cases p62 : Lib.hasPrefix (l2.dropWhile blkB) [62] with
      | true =>
        have HV : Hid (tot = some ([⟨1, n, ats, []⟩], (l2.dropWhile blkB).tail)) := Lib.hid (by rw [HO.out, openD_62 p62, List.drop_one])
        have hdl := has_len p62
        simp at hdl
        rw [p62] at H62
        clear HO H47 p62
        have hdl2 : 1 ≤ (l2.dropWhile blkB).length := hdl
        clear hdl
        generalize l2.dropWhile blkB = d at *
        have x0 := HF.out.1.cell 0
        have x1 := HF.out.1.cell 1
        have x2 := HF.out.1.cell 2
        have x3 := HF.out.1.cell 3
        simp at x0 x1 x2 x3
        have hsz := HF.out.2.2.2.size
        go_wp2_with fail
        (with_reducible refine (HB.out _).mono ?_)
        rintro e w1 ⟨rfl, rfl⟩
        go_wp2_with fail
        (with_reducible refine (H62.out _).mono ?_)
        rintro e w1 ⟨rfl, rfl⟩
        go_wp2_with fail
        go_region
        go_wp2_with fail
        go_ret3
        rw [HV.out]
        exact ⟨(bel_alloc HF.out.2.2.2 _).drew, _, _, _, rfl, RwA.bel xtP (xt_lit hsz (HF.out.xt hn1 HF.out.2.2.1)) ((Below.refl _ _).drew), Nat.le_refl _, by omega⟩
      | false =>
        rw [p62] at H62
        cases p47 : Lib.hasPrefix (l2.dropWhile blkB) [47, 62] with
        | true =>
          have HV : Hid (tot = some ([⟨1, n, ats, []⟩, ⟨2, n, [], []⟩], (l2.dropWhile blkB).drop 2)) := Lib.hid (by rw [HO.out]; exact openD_47 p62 p47)
          have hdl := has_len p47
          simp at hdl
          rw [p47] at H47
          clear HO p62 p47
          have hdl2 : 2 ≤ (l2.dropWhile blkB).length := hdl
          clear hdl
          generalize l2.dropWhile blkB = d at *
          have x0 := HF.out.1.cell 0
          have x1 := HF.out.1.cell 1
          have x2 := HF.out.1.cell 2
          have x3 := HF.out.1.cell 3
          simp at x0 x1 x2 x3
          have hsz := HF.out.2.2.2.size
          go_wp2_with fail
          (with_reducible refine (HB.out _).mono ?_)
          rintro e w1 ⟨rfl, rfl⟩
          go_wp2_with fail
          (with_reducible refine (H62.out _).mono ?_)
          rintro e w1 ⟨rfl, rfl⟩
          go_wp2_with fail
          (with_reducible refine (H47.out _).mono ?_)
          rintro e w1 ⟨rfl, rfl⟩
          go_wp2_with fail
          go_region
          go_wp2_with fail
          go_ret3
          rw [HV.out]
          exact ⟨(bel_alloc HF.out.2.2.2 _).drew, _, _, _, rfl, RwA.bel xtP (xt_lit2 hsz (HF.out.xt hn1 HF.out.2.2.1) (xt_plain 2 n [] (by omega) (by omega) (by simp))) ((Below.refl _ _).drew), Nat.le_refl _, by omega⟩
        | false =>
          rw [p47] at H47
          have hlen := congrArg List.length (List.takeWhile_append_dropWhile (p := blkB) (l := l2))
          rw [List.length_append] at hlen
          cases q : (!(l2.takeWhile blkB).isEmpty) with
          | false =>
            have HV : Hid (tot = none) := Lib.hid (by rw [HO.out]; exact openD_apart p62 p47 q)
            have h0 : (l2.takeWhile blkB).length = 0 := by simpa using q
            have he : ((l2.dropWhile blkB).length : Int) = (l2.length : Int) := by omega
            have hd1 : (((l2.dropWhile blkB).length : Int) == (l2.length : Int)) = true := by simpa using he
            have hd2 : ((l2.dropWhile blkB).length == l2.length) = true := by simp; omega
            clear HO p62 p47 q h0 he hlen
            generalize l2.dropWhile blkB = d at *
            go_wp2_with fail
            (with_reducible refine (HB.out _).mono ?_)
            rintro e w1 ⟨rfl, rfl⟩
            go_wp2_with fail
            (with_reducible refine (H62.out _).mono ?_)
            rintro e w1 ⟨rfl, rfl⟩
            go_wp2_with fail
            (with_reducible refine (H47.out _).mono ?_)
            rintro e w1 ⟨rfl, rfl⟩
            go_wp2_with fail
            go_ret3
            rw [HV.out]
            exact ⟨HF.out.2.2.2, none, 0, 0, _, rfl⟩
          | true =>
            have h0 : ¬ (l2.takeWhile blkB).length = 0 := by simpa using q
            have hd1 : (((l2.dropWhile blkB).length : Int) == (l2.length : Int)) = false := by simp; omega
            have hd2 : ((l2.dropWhile blkB).length == l2.length) = false := by simp; omega
            have HA := Lib.hid (fun W => refAttr8_any (l2.dropWhile blkB) W (by omega))
            cases had : attrD (l2.dropWhile blkB) with
            | none =>
              have HV : Hid (tot = none) := Lib.hid (by rw [HO.out]; exact openD_attr p62 p47 had)
              rw [had] at HA
              clear HO p62 p47 q h0 hlen had
              generalize l2.dropWhile blkB = d at *
              go_wp2_with fail
              (with_reducible refine (HB.out _).mono ?_)
              rintro e w1 ⟨rfl, rfl⟩
              go_wp2_with fail
              (with_reducible refine (H62.out _).mono ?_)
              rintro e w1 ⟨rfl, rfl⟩
              go_wp2_with fail
              (with_reducible refine (H47.out _).mono ?_)
              rintro e w1 ⟨rfl, rfl⟩
              go_wp2_with fail
              (with_reducible refine (HA.out _).mono ?_)
              rintro e w2 ⟨rfl, hb⟩
              simp only [arV]
              have B2 := bel_alloc (bel_step HF.out.2.2.2 hb) (.cells #[.string ⟨#[]⟩, .string ⟨#[]⟩] 51)
              clear hb
              go_wp2_with fail
              go_ret3
              rw [HV.out]
              exact ⟨B2, none, 0, 0, _, rfl⟩
            | some ab =>
              obtain ⟨a, b⟩ := ab
              rw [had] at HA
              have hbl := attrD_len had
              have hal : a.nm.length ≤ 1000000 ∧ a.vl.length ≤ 1000000 := by
                have h1 := cAttr_len (l2.dropWhile blkB, false)
                have h2 := (cAttr_of (l2.dropWhile blkB)).1 a b had
                rw [h2] at h1
                simp only at h1
                omega
              have hml : ats.length = m := HF.out.2.1.len
              have HL3 : Hid (b.length < l2.length) := Lib.hid (by omega)
              have hb1 : b.length ≤ 100000 := by omega
              by_cases h32 : 32 ≤ m
              · have hd32 : decide ((32 : Int) ≤ (m : Int)) = true := by simp; omega
                have hd32' : decide (32 ≤ m) = true := by simpa using h32
                have HV : Hid (tot = none) := Lib.hid (by rw [HO.out]; exact openD_full p62 p47 had (.inl (by omega)))
                clear HO p62 p47 q h0 hlen had hbl h32
                generalize l2.dropWhile blkB = d at *
                go_wp2_with fail
                (with_reducible refine (HB.out _).mono ?_)
                rintro e w1 ⟨rfl, rfl⟩
                go_wp2_with fail
                (with_reducible refine (H62.out _).mono ?_)
                rintro e w1 ⟨rfl, rfl⟩
                go_wp2_with fail
                (with_reducible refine (H47.out _).mono ?_)
                rintro e w1 ⟨rfl, rfl⟩
                go_wp2_with fail
                (with_reducible refine (HA.out _).mono ?_)
                rintro e w2 ⟨rfl, hb⟩
                simp only [arV, xaV]
                have F1 := Lib.hid (HF.out.bel hb)
                have F2 := Lib.hid (F1.out.bel (bel_alloc (Below.refl w2.heap.size w2) (.cells (xaV a) 51)))
                have A2 := Lib.hid (Blk.new w2 51 (xaV a))
                obtain ⟨q5, hq5⟩ : ∃ q5, w2.heap.size = q5 := ⟨_, rfl⟩
                have hkq : k < w2.heap.size := F1.out.1.lt
                rw [hq5] at A2 hkq
                have x2 := F2.out.1.cell 2
                simp [xaV] at x2
                clear hb HF F1
                go_wp2_with fail
                go_ret3
                rw [HV.out]
                exact ⟨F2.out.2.2.2, none, 0, 0, _, rfl⟩
              · have hd32 : decide ((32 : Int) ≤ (m : Int)) = false := by simp; omega
                have hd32' : decide (32 ≤ m) = false := by simpa using h32
                have HVb : Hid (hasNm ats a.nm = true → tot = none) := Lib.hid (fun h => by rw [HO.out]; exact openD_full p62 p47 had (.inr h))
                have HVn : Hid (hasNm ats a.nm = false → tot = openD n (32 - (m + 1)) (ats ++ [a]) b) := Lib.hid (fun h => by
                  have e : 32 - m = (32 - (m + 1)) + 1 := by omega
                  have h2 := HO.out
                  rw [e, openD_next p62 p47 q had h] at h2
                  exact h2)
                have HML := Lib.hid hml
                clear HO p62 p47 q h0 hlen had hbl hml
                generalize l2.dropWhile blkB = d at *
                go_wp2_with fail
                (with_reducible refine (HB.out _).mono ?_)
                rintro e w1 ⟨rfl, rfl⟩
                go_wp2_with fail
                (with_reducible refine (H62.out _).mono ?_)
                rintro e w1 ⟨rfl, rfl⟩
                go_wp2_with fail
                (with_reducible refine (H47.out _).mono ?_)
                rintro e w1 ⟨rfl, rfl⟩
                go_wp2_with fail
                (with_reducible refine (HA.out _).mono ?_)
                rintro e w2 ⟨rfl, hb⟩
                simp only [arV, xaV]
                have F1 := Lib.hid (HF.out.bel hb)
                have F2 := Lib.hid (F1.out.bel (bel_alloc (Below.refl w2.heap.size w2) (.cells (xaV a) 51)))
                have A2 := Lib.hid (Blk.new w2 51 (xaV a))
                obtain ⟨q5, hq5⟩ : ∃ q5, w2.heap.size = q5 := ⟨_, rfl⟩
                have hkq : k < w2.heap.size := F1.out.1.lt
                rw [hq5] at A2 hkq
                have x2 := F2.out.1.cell 2
                simp [xaV] at x2
                clear hb HF F1
                go_wp2_with fail
                obtain ⟨wo, hwo⟩ : ∃ wo : World, wo = w2.alloc (.cells #[.string ⟨a.nm.toArray⟩, .string ⟨a.vl.toArray⟩] 51) := ⟨_, rfl⟩
                have hwz : wo.heap.size = q5 + 1 := by rw [hwo]; simp [hq5]
                try simp only [xaV] at F2 A2
                rw [← hwo] at F2 A2 ⊢
                clear hwo
                have c2 := F2.out.1.cell 2
                have a0 := A2.out.cell 0
                have a1 := A2.out.cell 1
                simp [xaV] at c2 a0 a1
                go_loopw [12] (fun v wv => ∃ (i j : Nat), v = .int .i64 (i : Int) ∧ i ≤ m ∧ wv = wo.drewN j ∧ Hid ((ats.take i).any (fun x => x.nm == a.nm) = false)) (fun v _ => m - (intOf v).toNat)
                case atStart => exact ⟨0, 0, rfl, Nat.zero_le _, rfl, Lib.hid (by simp)⟩
                case round =>
                  obtain ⟨i, j, rfl, him, rfl, hsofar⟩ := hrel
                  by_cases hlt : i < m
                  · have hlti : (i : Int) < (m : Int) := by omega
                    have hlt' : decide (i < m) = true := by simpa using hlt
                    obtain ⟨y, bb, off, hg, rfl, -, hbs, g1, g2, f0, f1⟩ := xa_at (F2.out.2.1.qs (S' := fun _ => True) xaP (fun _ _ _ => trivial) (fun _ _ _ => trivial)) hlt
                    cases hyn : (y.nm == a.nm) with
                    | true =>
                      have HV : Hid (tot = none) := Lib.hid (HVb.out (List.any_eq_true.2 ⟨y, List.mem_of_getElem? hg.out, hyn⟩))
                      go_wp2_with fail
                      go_quiet (fail)
                      go_wp2_with fail
                      go_ret3
                      rw [HV.out]
                      exact ⟨Nst.below_drewN (Nst.below_drewN F2.out.2.2.2 _) _, none, 0, 0, _, rfl⟩
                    | false =>
                      have HS2 : Hid ((ats.take (i + 1)).any (fun x => x.nm == a.nm) = false) := Lib.hid (by
                        rw [List.take_add_one, hg.out, List.any_append, hsofar.out]
                        simp [hyn])
                      go_wp2_with fail
                      go_quiet (fail)
                      go_wp2_with fail
                      go_roundw
                      case rel => exact ⟨i + 1, j + nq, by go_num, by omega, by simp, HS2⟩
                      case measure => simp [intOf]; omega
                  · obtain rfl : i = m := by omega
                    have hlt' : decide (i < i) = false := by simp
                    have hno : hasNm ats a.nm = false := by
                      have := hsofar.out
                      rwa [List.take_of_length_le (by have := HML.out; omega)] at this
                    have HV := Lib.hid (HVn.out hno)
                    clear hno hsofar HVn HVb
                    have F3 := Lib.hid (F2.out.bel (Nst.below_drewN (Below.refl wo.heap.size wo) j))
                    have R := F3.out.ready a hal (sz := q5 + 1) (by exact hwz)
                    have R2 := Lib.hid R.2.2.2
                    have ho := R.1
                    have hr := R.2.1
                    have hba := R.2.2.1
                    clear R
                    simp only [xaV] at ho hr hba R2
                    go_wp2_with (at_builtin; go_loud (refine wpList_appZ xaP iXas rfl rfl rfl ho rfl hr (by omega) (by omega) hba ?_; intro A' c' w7 ho7 hb7 hgr7; have x7 := (R2.out.1.below hb7 (by omega)).cell 2; have f7 := (R2.out.1.below hb7 (by omega)).frozen; simp at x7))
                    have ON := Lib.hid (OpR.more F3.out ho7 ((R2.out.2).trans hb7))
                    go_roundw
                    case rel => exact ⟨ats ++ [a], A', i + 1, c', b, rfl, ON, by omega, hb1, HV⟩
                    case measure =>
                      simp only [strL, size_of]
                      exact HL3.out
end Go.Proofs.Ytjmmgekildlckaa
