/-
  Write; the document's Write, Large.
-/
import Derived.Test.YtnagckdaleafdaaXnC
namespace Go.Proofs.Ytnagckdaleafdaa
open Go.RowKit Go.Nst
set_option maxRecDepth 100000
set_option linter.unusedVariables false
set_option linter.unusedSimpArgs false

def SmT (t : Xtk) : Prop := t.nm.length ≤ 300 ∧ t.tx.length ≤ 3000 ∧ t.ats.length ≤ 60 ∧ ∀ a ∈ t.ats, a.nm.length ≤ 300 ∧ a.vl.length ≤ 1000
def SmL (l : List Xtk) : Prop := l.length ≤ 300 ∧ ∀ t ∈ l, SmT t
theorem wrA_sm {a : Xat} (h1 : a.nm.length ≤ 300) (h2 : a.vl.length ≤ 1000) : (wrA a).length ≤ 7004 := wrA_len (by omega) h2
theorem wrT_sm {t : Xtk} (h : SmT t) : (wrT t).length ≤ 500000 := by
  obtain ⟨h1, h2, h3, h4⟩ := h
  have h5 := flat_len (f := wrA) (K := 7004) t.ats (fun a ha => wrA_sm (h4 a ha).1 (h4 a ha).2)
  have h6 := (writeL_len t.tx).2
  have h7 : 7004 * t.ats.length ≤ 7004 * 60 := Nat.mul_le_mul_left _ h3
  unfold wrT
  split
  · simp only [List.length_append, List.length_cons, List.length_nil]
    omega
  · split
    · simp only [List.length_append, List.length_cons, List.length_nil]
      omega
    · omega
theorem wrD_sm {l : List Xtk} (h : SmL l) (k : Nat) : (wrD (l.take k)).length ≤ 150000000 := by
  have h5 := flat_len (f := wrT) (K := 500000) (l.take k) (fun a ha => wrT_sm (h.2 a (List.mem_of_mem_take ha)))
  rw [List.length_take] at h5
  have h7 : 500000 * min k l.length ≤ 500000 * 300 := Nat.mul_le_mul_left _ (by have := h.1; omega)
  unfold wrD
  omega
theorem wrD_snoc (l : List Xtk) {k : Nat} {t : Xtk} (hg : l[k]? = some t) : wrD (l.take (k + 1)) = wrD (l.take k) ++ wrT t := by
  rw [List.take_add_one, hg]
  simp [wrD]
/-- a list's tokens lie below what is new -/
theorem xt_low {w : World} {S : Nat → Prop} {A : Option Addr} {n : Nat} {l : List Xtk} (h : XtA w S A n l) : XtA w (fun b => b < w.heap.size) A n l := h.wide xtP (fun _ _ h => h)
def wrV (l : List Xtk) : Value := if mayD 0 l then .tuple #[.string ⟨(wrD l).toArray⟩, .int .i64 0] else .tuple #[.string ⟨#[]⟩, .int .i64 1]
set_option maxHeartbeats 8000000 in
theorem Write8_any (l : List Xtk) (A : Option Addr) (n c : Nat) (w : World) (S : Nat → Prop) (hk0 : XtA w S A n l) (hc : n ≤ c ∧ c ≤ 9223372036854775807) (hsm : SmL l) :
    Calls Try.prog 12 #[.slice A n c] w fun e w' => e = .returned (wrV l) ∧ Below w.heap.size w w' := by
  have hk := xt_low hk0
  have HLN := Lib.hid hk.len
  have HSM := Lib.hid hsm
  have hc1 := hc.1
  have hc2 := hc.2
  have hnn : n ≤ 300 := by have := hsm.1; have := hk.len; omega
  have HBD0 := Lib.hid (Bd.fresh w)
  clear hc hsm hk0
  go_enter Try.func12, Try.ntmps12
  go_wp2_with fail
  go_loopw [5, 10] (fun v i wr => ∃ (k : Nat) (was : Int), k ≤ n ∧ i = .int .i64 k ∧ v = .int .i64 was ∧ Hid (mayD 0 l = mayD was (l.drop k)) ∧ Hid (Bd wr w.heap.size w.heap.size (wrD (l.take k))) ∧ Below w.heap.size w wr) (fun _ i _ => n - (intOf i).toNat)
  case atStart => exact ⟨0, 0, Nat.zero_le _, rfl, rfl, Lib.hid rfl, HBD0, bel_alloc (Below.refl _ _) _⟩
  case round =>
    obtain ⟨k, was, hkl, rfl, rfl, HV, HBd, hb⟩ := hrel
    clear HBD0
    have hbz := hb.size
    by_cases hlt : k < n
    · obtain ⟨t, B, d, b, off, hg, rfl, hS, hbs, hP, k1, k2, k3, k4, k5, HA, f0, f1, f2, f3⟩ := xt_at (hk.bel xtP hb) hlt
      obtain ⟨kd, nm, ats, tx⟩ := t
      have hlt' : decide (k < n) = true := by simpa using hlt
      obtain ⟨q1, q2, q3, q4⟩ := HSM.out.2 _ (List.mem_of_getElem? hg.out)
      have hdr : l.drop k = ⟨kd, nm, ats, tx⟩ :: l.drop (k + 1) := by
        have h1 := List.getElem?_eq_some_iff.1 hg.out
        obtain ⟨h2, h3⟩ := h1
        rw [List.drop_eq_getElem_cons h2, h3]
      simp only at k1 k2 k3 k4 k5 q1 q2 q3 q4 f0 f1 f2 f3
      have D1 := bel_alloc (Below.refl wr.heap.size wr) (.cells (xtV ⟨kd, nm, ats, tx⟩ B ats.length d) 36)
      have HA1 := Lib.hid (RwA.bel xaP HA.out D1)
      have HC := Lib.hid (odd8_any kd nm ats tx B d was _ _ HA1.out ⟨k4, k5⟩ (by omega) (fun a ha => by have := q4 a ha; omega) (by omega))
      have HBX := Lib.hid (Blk.new wr 36 (xtV ⟨kd, nm, ats, tx⟩ B ats.length d))
      have HB1 := Lib.hid (bel_step hb D1)
      have hblt := bd_lt HBd.out
      have HBd1 := Lib.hid (bd_below HBd.out D1)
      have hne : wr.heap.size ≠ w.heap.size := by omega
      have HD1z := Lib.hid D1.size
      rw [hdr] at HV
      simp only [xtV] at HC HBX HB1 HBd1 HA1 HD1z
      clear hdr hP HA D1 HBd
      cases hm : mayT ⟨kd, nm, ats, tx⟩ was with
      | false =>
        rw [hm] at HC
        have HE : Hid (mayD 0 l = false) := Lib.hid (by rw [HV.out]; simp [mayD, hm])
        clear hm
        go_wp2_with fail
        (with_reducible refine (HC.out).mono ?_)
        rintro e w2 ⟨rfl, hb2⟩
        go_wp2_with fail
        go_ret2
        exact ⟨by unfold wrV; rw [HE.out]; rfl, bel_step HB1.out hb2⟩
      | true =>
        rw [hm] at HC
        have HE : Hid (mayD 0 l = mayD kd (l.drop (k + 1))) := Lib.hid (by rw [HV.out]; simp [mayD, hm])
        have hwl := wrD_sm HSM.out k
        have HNX := Lib.hid (wrD_snoc l hg.out)
        clear hm
        go_wp2_with fail
        (with_reducible refine (HC.out).mono ?_)
        rintro e w2 ⟨rfl, hb2⟩
        have HBX2 := Lib.hid (HBX.out.below hb2 HBX.out.lt)
        have z0 := HBX2.out.cell 0
        have z1 := HBX2.out.cell 1
        have z2 := HBX2.out.cell 2
        have z3 := HBX2.out.cell 3
        simp at z0 z1 z2 z3
        have HB2 := Lib.hid (bel_step HB1.out hb2)
        have hz2 := HB2.out.size
        have HWR := Lib.hid (write8_any nm ats tx B d w.heap.size w.heap.size (wrD (l.take k)) w2 kd (bd_below HBd1.out hb2) hz2 (RwA.bel xaP HA1.out hb2) ⟨k4, k5⟩ (by omega) (by omega) (by omega) (fun a ha => by have := q4 a ha; omega) (by omega))
        simp only [xtV] at HWR
        clear HC HBX HB1 HBd1 HA1 hb2
        go_wp2_with fail
        (with_reducible refine (HWR.out).mono ?_)
        rintro e w3 ⟨rfl, hbd3, hkb3⟩
        have zk := blk_kb HBX2.out hkb3 (by decide) hne
        have y0 := zk.cell 0
        simp at y0
        have HB3 := Lib.hid (Below.trans HB2.out hkb3.1)
        have HBD3 := Lib.hid hbd3
        rw [← HNX.out] at HBD3
        clear zk z0 z1 z2 z3 HBX2 HWR HB2 hkb3 hbd3
        go_wp2_with fail
        go_roundw
        case rel => exact ⟨k + 1, kd, by omega, by go_num, rfl, HE, HBD3, HB3.out⟩
        case measure => simp [intOf]; omega
    · obtain rfl : k = n := by omega
      have hlt' : decide (k < k) = false := by simp
      have HE : Hid (mayD 0 l = true) := Lib.hid (by rw [HV.out, List.drop_eq_nil_of_le (by have := HLN.out; omega)]; rfl)
      have hta : l.take k = l := List.take_of_length_le (by have := HLN.out; omega)
      rw [hta] at HBd
      have HC := Lib.hid (bString_k w.heap.size w.heap.size (wrD l) wr HBd.out hbz)
      clear HBd hta
      go_wp2_with fail
      (with_reducible refine (HC.out).mono ?_)
      rintro e w2 ⟨rfl, hbd2, hb2, hk2⟩
      go_wp2_with fail
      go_ret2
      exact ⟨by unfold wrV; rw [HE.out]; rfl, hb.trans hb2⟩
set_option maxHeartbeats 8000000 in
theorem refWrite8_any (l : List Xtk) (A : Option Addr) (n c : Nat) (w : World) (S : Nat → Prop) (hk : XtA w S A n l) (hc : n ≤ c ∧ c ≤ 9223372036854775807) (hsm : SmL l) :
    Calls Try.prog 14 #[.slice A n c] w (RetS w (wrD l)) := by
  have HLN := Lib.hid hk.len
  have HSM := Lib.hid hsm
  have hc1 := hc.1
  have hc2 := hc.2
  have hnn : n ≤ 300 := by have := hsm.1; have := hk.len; omega
  clear hc hsm
  go_enter Try.func14, Try.ntmps14
  go_wp2_with fail
  go_loopw [3, 4] (fun v i wr => ∃ (k : Nat), k ≤ n ∧ i = .int .i64 k ∧ v = .string ⟨(wrD (l.take k)).toArray⟩ ∧ Below w.heap.size w wr) (fun _ i _ => n - (intOf i).toNat)
  case atStart => exact ⟨0, Nat.zero_le _, rfl, by simp [wrD], Below.refl _ _⟩
  case round =>
    obtain ⟨k, hkl, rfl, rfl, hb⟩ := hrel
    by_cases hlt : k < n
    · obtain ⟨t, B, d, b, off, hg, rfl, hS, hbs, hP, k1, k2, k3, k4, k5, HA, f0, f1, f2, f3⟩ := xt_at (hk.bel xtP hb) hlt
      obtain ⟨kd, nm, ats, tx⟩ := t
      have hlt' : decide (k < n) = true := by simpa using hlt
      have hki : (k : Int) < (n : Int) := by omega
      obtain ⟨q1, q2, q3, q4⟩ := HSM.out.2 _ (List.mem_of_getElem? hg.out)
      simp only at k1 k2 k3 k4 k5 q1 q2 q3 q4 f0 f1 f2 f3
      have hwl := wrD_sm HSM.out k
      have HNX := Lib.hid (wrD_snoc l hg.out)
      have D1 := bel_alloc (Below.refl wr.heap.size wr) (.cells (xtV ⟨kd, nm, ats, tx⟩ B ats.length d) 36)
      have HBX := Lib.hid (Blk.new wr 36 (xtV ⟨kd, nm, ats, tx⟩ B ats.length d))
      have HA1 := Lib.hid (RwA.bel xaP HA.out D1)
      have HB1 := Lib.hid (bel_step hb D1)
      simp only [xtV] at HBX HA1 HB1
      clear D1 hP HA
      generalize hacc : wrD (l.take k) = acc at *
      have HACC := Lib.hid hacc
      clear hacc
      by_cases h1 : kd = 1
      · subst h1
        have hw : wrT ⟨1, nm, ats, tx⟩ = [60] ++ nm ++ ats.flatMap wrA ++ [62] := by simp [wrT]
        rw [hw] at HNX
        have hfl : ∀ i, ((acc ++ ([60] ++ nm ++ (ats.take i).flatMap wrA)) : List UInt8).length ≤ 150000000 + 301 + 7004 * 60 := fun i => by
          have h1 := flat_len (f := wrA) (K := 7004) (ats.take i) (fun a ha => by have := q4 a (List.mem_of_mem_take ha); exact wrA_sm this.1 this.2)
          rw [List.length_take] at h1
          simp only [List.length_append, List.length_cons, List.length_nil]
          have : 7004 * min i ats.length ≤ 7004 * 60 := Nat.mul_le_mul_left _ (by omega)
          omega
        have HFL := Lib.hid hfl
        have HQ4 := Lib.hid q4
        have hcat0 : (ByteArray.mk acc.toArray) ++ (ByteArray.mk #[60]) ++ (ByteArray.mk nm.toArray) = ⟨(acc ++ ([60] ++ nm ++ (ats.take 0).flatMap wrA)).toArray⟩ := by
          rw [show (ByteArray.mk #[60]) = ByteArray.mk ([60] : List UInt8).toArray from rfl, ba_cat, ba_cat]
          simp
        have HC0 := Lib.hid hcat0
        clear hw hfl q4 hcat0
        go_wp2_with fail
        try rw [HC0.out]
        obtain ⟨wo, hwo⟩ : ∃ wo : World, wo = wr.alloc (.cells #[.int .i64 1, .string ⟨nm.toArray⟩, .slice B ats.length d, .string ⟨tx.toArray⟩] 36) := ⟨_, rfl⟩
        rw [← hwo] at HBX HA1 HB1 ⊢
        have hwz : wo.heap.size = wr.heap.size + 1 := by rw [hwo]; simp
        clear hwo
        obtain ⟨kb, hkb⟩ : ∃ kb, wr.heap.size = kb := ⟨_, rfl⟩
        rw [hkb] at HBX hwz
        try rw [hkb]
        have HKB := Lib.hid hkb
        clear hkb f0 f1 f2 f3
        go_loopw [3, 6] (fun v q wv => ∃ (i : Nat), q = .int .i64 (i : Int) ∧ i ≤ ats.length ∧ v = .string ⟨(acc ++ ([60] ++ nm ++ (ats.take i).flatMap wrA)).toArray⟩ ∧ Below wo.heap.size wo wv) (fun _ q _ => ats.length - (intOf q).toNat)
        case atStart => exact ⟨0, rfl, Nat.zero_le _, rfl, Below.refl _ _⟩
        case round =>
          obtain ⟨i, rfl, hi, rfl, hbi⟩ := hrel
          have zk := HBX.out.below hbi HBX.out.lt
          have z2 := zk.cell 2
          simp at z2
          by_cases hlt2 : i < ats.length
          · obtain ⟨a, bb, off2, hg2, rfl, hbB, hbs2, g1, g2, y0, y1⟩ := xa_at (HA1.out.bel xaP hbi) hlt2
            have hlt2' : decide (i < ats.length) = true := by simpa using hlt2
            have hii : (i : Int) < (ats.length : Int) := by omega
            have hss := HQ4.out a (List.mem_of_getElem? hg2.out)
            have hs1 := hss.1
            have hs2 := hss.2
            have hwv2 := (writeL_len a.vl).2
            have HNX2 : Hid (acc ++ ([60] ++ nm ++ (ats.take (i + 1)).flatMap wrA) = (acc ++ ([60] ++ nm ++ (ats.take i).flatMap wrA)) ++ wrA a) := Lib.hid (by
              rw [List.take_add_one, hg2.out]
              simp)
            have hfi := HFL.out i
            have HW := Lib.hid (fun W => refWrite7_any ⟨a.vl.toArray⟩ W (by rw [size_of]; omega))
            rw [bl_of] at HW
            generalize hpre : acc ++ ([60] ++ nm ++ (ats.take i).flatMap wrA) = pre at *
            have hwa : (ByteArray.mk pre.toArray) ++ (ByteArray.mk #[32]) ++ (ByteArray.mk a.nm.toArray) ++ (ByteArray.mk #[61, 34]) ++ (ByteArray.mk (writeL a.vl).toArray) ++ (ByteArray.mk #[34]) = ⟨(pre ++ wrA a).toArray⟩ := by
              rw [show (ByteArray.mk #[32]) = ByteArray.mk ([32] : List UInt8).toArray from rfl, show (ByteArray.mk #[61, 34]) = ByteArray.mk ([61, 34] : List UInt8).toArray from rfl, show (ByteArray.mk #[34]) = ByteArray.mk ([34] : List UInt8).toArray from rfl, ba_cat, ba_cat, ba_cat, ba_cat, ba_cat]
              simp [wrA]
            rw [← HNX2.out] at hwa
            have HWA := Lib.hid hwa
            have hl2 : (writeL a.vl).length ≤ 6000 := by omega
            generalize writeL a.vl = wv at *
            have HB9 := Lib.hid hbi
            have hp9 : pre.length ≤ 200000000 := by omega
            clear hpre hwa hss hfi hwv2 hbi HNX2 zk
            have q1' : ¬ 9223372036854775807 < pre.length + 1 := by omega
            have q2' : ¬ 9223372036854775807 < pre.length + 1 + a.nm.length := by omega
            have q3' : ¬ 9223372036854775807 < pre.length + 1 + a.nm.length + 2 := by omega
            have q4' : ¬ 9223372036854775807 < pre.length + 1 + a.nm.length + 2 + wv.length := by omega
            have q5' : ¬ 9223372036854775807 < pre.length + 1 + a.nm.length + 2 + wv.length + 1 := by omega
            go_wp2_with fail
            go_quiet ((go_at_call 26; with_reducible exact quiet_same (HW.out _)))
            go_wp2_with fail
            go_roundw
            case rel => exact ⟨i + 1, by go_num, by omega, by rw [← HWA.out], Nst.below_drewN HB9.out nq⟩
            case measure => simp [intOf]; omega
          · obtain rfl : i = ats.length := by omega
            have hlt2' : decide (ats.length < ats.length) = false := by simp
            have hcat1 : (ByteArray.mk (acc ++ ([60] ++ nm ++ (ats.take ats.length).flatMap wrA)).toArray) ++ (ByteArray.mk #[62]) = ⟨(wrD (l.take (k + 1))).toArray⟩ := by
              rw [show (ByteArray.mk #[62]) = ByteArray.mk ([62] : List UInt8).toArray from rfl, ba_cat, List.take_length, HNX.out]
              simp
            have HC1 := Lib.hid hcat1
            have hfi := HFL.out ats.length
            have HB9 := Lib.hid (bel_step HB1.out hbi)
            clear hcat1 hbi zk
            generalize acc ++ ([60] ++ nm ++ (ats.take ats.length).flatMap wrA) = pre at *
            go_wp2_with fail
            go_roundw
            case rel => exact ⟨k + 1, by omega, by go_num, by rw [← HC1.out], HB9.out⟩
            case measure => simp [intOf]; omega
      by_cases h2 : kd = 2
      · subst h2
        have hw : wrT ⟨2, nm, ats, tx⟩ = [60, 47] ++ nm ++ [62] := by simp [wrT]
        have hcat1 : (ByteArray.mk acc.toArray) ++ (ByteArray.mk #[60, 47]) ++ (ByteArray.mk nm.toArray) ++ (ByteArray.mk #[62]) = ⟨(wrD (l.take (k + 1))).toArray⟩ := by
          rw [show (ByteArray.mk #[60, 47]) = ByteArray.mk ([60, 47] : List UInt8).toArray from rfl, show (ByteArray.mk #[62]) = ByteArray.mk ([62] : List UInt8).toArray from rfl, ba_cat, ba_cat, ba_cat, HNX.out, hw]
          simp
        have HC1 := Lib.hid hcat1
        clear hw hcat1 HNX
        go_wp2_with fail
        go_roundw
        case rel => exact ⟨k + 1, by omega, by go_num, by rw [← HC1.out], HB1.out⟩
        case measure => simp [intOf]; omega
      · have e1 : (kd == 1) = false := by simpa using h1
        have e2 : (kd == 2) = false := by simpa using h2
        have hw : wrT ⟨kd, nm, ats, tx⟩ = writeL tx := by simp [wrT, h1, h2]
        have HW := Lib.hid (fun W => refWrite7_any ⟨tx.toArray⟩ W (by rw [size_of]; omega))
        rw [bl_of] at HW
        have hwl2 := (writeL_len tx).2
        have hcat1 : (ByteArray.mk acc.toArray) ++ (ByteArray.mk (writeL tx).toArray) = ⟨(wrD (l.take (k + 1))).toArray⟩ := by
          rw [ba_cat, HNX.out, hw]
        have HC1 := Lib.hid hcat1
        clear hw hcat1 HNX h1 h2
        generalize writeL tx = wv at *
        go_wp2_with fail
        (with_reducible refine (HW.out _).mono ?_)
        rintro e w2 ⟨rfl, rfl⟩
        go_wp2_with fail
        go_roundw
        case rel => exact ⟨k + 1, by omega, by go_num, by rw [← HC1.out], HB1.out⟩
        case measure => simp [intOf]; omega
    · obtain rfl : k = n := by omega
      have hlt' : decide (k < k) = false := by simp
      have hta : l.take k = l := List.take_of_length_le (by have := HLN.out; omega)
      have HTA := Lib.hid hta
      clear hta
      go_wp2_with fail
      go_ret
      exact ⟨by first | (rw [HTA.out]; rfl) | rfl, hb⟩
end Go.Proofs.Ytnagckdaleafdaa
