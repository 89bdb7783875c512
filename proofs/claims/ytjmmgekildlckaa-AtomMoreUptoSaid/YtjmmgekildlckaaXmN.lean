/-
  The document's name, Name, blanks, has, find.
-/
import Derived.Test.YtjmmgekildlckaaXmC
namespace Go.Proofs.Ytjmmgekildlckaa
open Go.RowKit Go.Nst
set_option maxRecDepth 100000
set_option linter.unusedVariables false
set_option linter.unusedSimpArgs false

theorem tw_stop {p : UInt8 → Bool} {l : List UInt8} {k : Nat} (h : (l.take k).all p = true) (hs : l.length ≤ k ∨ ∃ u, l[k]? = some u ∧ p u = false) : l.takeWhile p = l.take k ∧ l.dropWhile p = l.drop k := by
  rcases hs with hs | ⟨u, hu, hp⟩
  · rw [List.take_of_length_le hs] at *
    rw [List.drop_eq_nil_of_le hs]
    exact Nst.take_all h
  · have e : l = l.take k ++ u :: l.drop (k + 1) := by
      rw [List.getElem?_eq_some_iff] at hu
      obtain ⟨hlt, hu⟩ := hu
      conv => lhs; rw [← List.take_append_drop k l, List.drop_eq_getElem_cons hlt, hu]
    have := take_append_stop h u (l.drop (k + 1)) hp
    rw [← e] at this
    refine ⟨this.1, ?_⟩
    rw [this.2]
    rw [List.getElem?_eq_some_iff] at hu
    obtain ⟨hlt, hu⟩ := hu
    rw [List.drop_eq_getElem_cons hlt, hu]
theorem all_more {p : UInt8 → Bool} {l : List UInt8} {k : Nat} {u : UInt8} (h : (l.take k).all p = true) (hu : l[k]? = some u) (hp : p u = true) : (l.take (k + 1)).all p = true := by
  rw [List.take_add_one, hu, List.all_append, h]
  simp [hp]
def nameR (l : List UInt8) : List UInt8 × List UInt8 := match nameD l with | some x => x | none => ([], l)
theorem nameR_beg {c : UInt8} {t : List UInt8} (hb : begB c = false) : nameR (c :: t) = ([], c :: t) := by
  unfold nameR nameD
  rw [if_neg]
  by_cases hg : goB c = true
  · rw [List.takeWhile_cons_of_pos hg]
    simp [nmB, hb]
  · rw [List.takeWhile_cons_of_neg hg]
    simp [nmB]
theorem nameR_stop {c : UInt8} {t : List UInt8} {k : Nat} (hk1 : 1 ≤ k) (hkl : k ≤ (c :: t).length) (ha : ((c :: t).take k).all goB = true) (hs : (c :: t).length ≤ k ∨ ∃ u, (c :: t)[k]? = some u ∧ goB u = false) (hb : begB c = true) :
    nameR (c :: t) = if k ≤ 64 then ((c :: t).take k, (c :: t).drop k) else ([], c :: t) := by
  have h1 := tw_stop ha hs
  unfold nameR nameD
  rw [h1.1, h1.2]
  have hl : ((c :: t).take k).length = k := by rw [List.length_take]; omega
  have hn : nmB ((c :: t).take k) = decide (k ≤ 64) := by
    obtain ⟨j, rfl⟩ : ∃ j, k = j + 1 := ⟨k - 1, by omega⟩
    rw [List.take_succ_cons] at hl ⊢
    simp only [nmB, hb, Bool.true_and, hl]
  rw [hn]
  by_cases h64 : k ≤ 64
  · simp [h64]
  · simp [h64]
def RetP2 (w : World) (a b : List UInt8) (e : Ending) (w' : World) : Prop := e = .returned (.tuple #[.string ⟨a.toArray⟩, .string ⟨b.toArray⟩]) ∧ Below w.heap.size w w'
set_option maxHeartbeats 2000000 in
theorem refName8_any (l : List UInt8) (w : World) (hl : l.length ≤ 1000000) : Calls Try.prog 44 #[.string ⟨l.toArray⟩] w (RetP2 w (nameR l).1 (nameR l).2) := by
  cases l with
  | nil =>
    go_enter Try.func44, Try.ntmps44
    go_wp2_with fail
    go_ret2
    exact ⟨rfl, Below.refl _ _⟩
  | cons c t =>
    obtain ⟨s0, hs0⟩ : ∃ s0, ByteArray.mk (c :: t).toArray = s0 := ⟨_, rfl⟩
    have hbl : bl s0 = c :: t := by rw [← hs0, bl_of]
    have hss : s0.size = (c :: t).length := by rw [← hs0, size_of]
    have hs1 : ∀ k, s0.extract 0 k = ⟨((c :: t).take k).toArray⟩ := fun k => by rw [← hs0, xstr_take]
    have hs2 : ∀ k, s0.extract k s0.size = ⟨((c :: t).drop k).toArray⟩ := fun k => by rw [hss, ← hs0, xstr_drop]
    have hp0 : 0 < s0.size := by rw [hss]; simp
    have hz1 : ¬ s0.size = 0 := by omega
    have hz2 : ¬ s0 = ByteArray.empty := fun e => hz1 (by rw [e]; rfl)
    have hz3 : (s0 == ByteArray.empty) = false := by rw [← hs0]; rfl
    have hz4 : ((s0.size : Int) == 0) = false := by simp; exact hz2
    have hg0 : s0[0] = c := by
      have h1 := bl_get s0 0 hp0
      rw [hbl] at h1
      simpa using h1.symm
    have hc8 := c.toNat_lt
    have HB := Lib.hid (fun W => refBegin8_any (c.toNat : Int) W (by omega) (by omega))
    rw [begR_of] at HB
    have hlz : (c :: t).length ≤ 1000000 := hl
    clear hl
    rw [hs0]
    cases hb : begB c with
    | false =>
      have hr := nameR_beg (t := t) hb
      rw [hb] at HB
      have HR : Hid (nameR (c :: t) = ([], c :: t)) := Lib.hid hr
      have HS := Lib.hid hs0
      clear hr hb hs0 hbl hs1 hs2 hss hlz
      go_enter Try.func44, Try.ntmps44
      go_wp2_with fail
      (with_reducible refine (HB.out _).mono ?_)
      rintro e w1 ⟨rfl, rfl⟩
      go_wp2_with fail
      go_ret2
      exact ⟨by rw [HR.out, HS.out]; rfl, Below.refl _ _⟩
    | true =>
      have HR := Lib.hid (fun (k : Nat) (h1 : 1 ≤ k) (h2 : k ≤ (c :: t).length) (h3 : ((c :: t).take k).all goB = true) (h4 : (c :: t).length ≤ k ∨ ∃ u, (c :: t)[k]? = some u ∧ goB u = false) => nameR_stop h1 h2 h3 h4 hb)
      have hgc : goB c = true := by unfold goB; rw [hb]; rfl
      rw [hb] at HB
      have HA1 : Hid (((bl s0).take 1).all goB = true) := Lib.hid (by rw [hbl]; simp [hgc])
      have HBL := Lib.hid hbl
      have HSS := Lib.hid hss
      have HS := Lib.hid (And.intro hs0 (And.intro hs1 hs2))
      have hsz : s0.size ≤ 1000000 := by omega
      have hsz1 : 1 ≤ s0.size := by omega
      clear hb hs0 hbl hs1 hs2 hgc hss hlz
      go_enter Try.func44, Try.ntmps44
      go_wp2_with fail
      (with_reducible refine (HB.out _).mono ?_)
      rintro e w1 ⟨rfl, rfl⟩
      go_wp2_with fail
      go_loop [4] (fun v => ∃ k : Nat, v = .int .i64 (k : Int) ∧ 1 ≤ k ∧ k ≤ s0.size ∧ Hid (((bl s0).take k).all goB = true)) (fun v => s0.size - (intOf v).toNat)
      case atStart => exact ⟨1, rfl, Nat.le_refl _, hsz1, HA1⟩
      case round =>
        obtain ⟨k, rfl, hk1, hks, HA⟩ := hrel
        have fin : (s0.size ≤ k ∨ ∃ u, (bl s0)[k]? = some u ∧ goB u = false) → nameR (c :: t) = if k ≤ 64 then ((c :: t).take k, (c :: t).drop k) else ([], c :: t) := fun h4 => HR.out k hk1 (by have := HSS.out; omega) (by have := HA.out; rwa [HBL.out] at this) (by have := HSS.out; have := HBL.out; rcases h4 with h4 | h4; left; omega; right; rwa [HBL.out] at h4)
        have FIN := Lib.hid fin
        clear fin
        by_cases hp : k < s0.size
        · have hu := bl_get s0 k hp
          obtain ⟨u, hu0⟩ : ∃ u, s0[k] = u := ⟨_, rfl⟩
          rw [hu0] at hu
          have hu8 := u.toNat_lt
          have HM := Lib.hid (fun W => refMore8_any (u.toNat : Int) W (by omega) (by omega))
          rw [goR_of] at HM
          cases hg : goB u with
          | true =>
            have HN := Lib.hid (all_more HA.out hu hg)
            rw [hg] at HM
            clear hg hu FIN
            go_wp2_with fail
            (with_reducible refine (HM.out _).mono ?_)
            rintro e w1 ⟨rfl, rfl⟩
            go_wp2_with fail
            go_round
            case rel => exact ⟨k + 1, by go_num, by omega, by omega, HN⟩
            case measure => simp [intOf]; omega
          | false =>
            have HF := Lib.hid (FIN.out (.inr ⟨u, hu, hg⟩))
            rw [hg] at HM
            clear hg hu FIN
            by_cases h64 : k ≤ 64
            · rw [if_pos h64] at HF
              have d64 : decide ((64 : Int) < (k : Int)) = false := by simp; omega
              go_wp2_with fail
              (with_reducible refine (HM.out _).mono ?_)
              rintro e w1 ⟨rfl, rfl⟩
              go_wp2_with fail
              go_quiet (fail)
              go_wp2_with fail
              go_ret2
              exact ⟨by rw [HF.out, HS.out.2.1, HS.out.2.2]; rfl, Nst.below_drewN (Below.refl _ _) nq⟩
            · rw [if_neg h64] at HF
              have d64 : decide ((64 : Int) < (k : Int)) = true := by simp; omega
              go_wp2_with fail
              (with_reducible refine (HM.out _).mono ?_)
              rintro e w1 ⟨rfl, rfl⟩
              go_wp2_with fail
              go_ret2
              exact ⟨by rw [HF.out, HS.out.1]; rfl, Below.refl _ _⟩
        · have HF := Lib.hid (FIN.out (.inl (by omega)))
          clear FIN
          by_cases h64 : k ≤ 64
          · rw [if_pos h64] at HF
            have d64 : decide ((64 : Int) < (k : Int)) = false := by simp; omega
            go_wp2_with fail
            go_quiet (fail)
            go_wp2_with fail
            go_ret2
            exact ⟨by rw [HF.out, HS.out.2.1, HS.out.2.2]; rfl, Nst.below_drewN (Below.refl _ _) nq⟩
          · rw [if_neg h64] at HF
            have d64 : decide ((64 : Int) < (k : Int)) = true := by simp; omega
            go_wp2_with fail
            go_ret2
            exact ⟨by rw [HF.out, HS.out.1]; rfl, Below.refl _ _⟩
theorem isName_nameR (l : List UInt8) : isName l = (!(nameR l).1.isEmpty && (nameR l).2.isEmpty) := by
  unfold nameR nameD isName
  rcases span_cases goB l with ⟨h1, h2, h3⟩ | ⟨a, c, t, h1, h2, h3, h4, h5⟩
  · rw [h1, h2, h3]
    cases hn : nmB l with
    | true =>
      cases l with
      | nil => cases hn
      | cons c t => rfl
    | false =>
      simp
  · rw [h4, h5, h1]
    cases hn : nmB a with
    | true =>
      cases a with
      | nil => cases hn
      | cons d s => simp [h3]
    | false =>
      simp [h3]
def RetStr (w : World) (a : List UInt8) (e : Ending) (w' : World) : Prop := e = .returned (.string ⟨a.toArray⟩) ∧ w' = w
theorem refBlanks8_any (l : List UInt8) (w : World) (hl : l.length ≤ 1000000) : Calls Try.prog 45 #[.string ⟨l.toArray⟩] w (RetStr w (l.dropWhile blkB)) := by
  obtain ⟨s0, hs0⟩ : ∃ s0, ByteArray.mk l.toArray = s0 := ⟨_, rfl⟩
  have hbl : bl s0 = l := by rw [← hs0, bl_of]
  have hss : s0.size = l.length := by rw [← hs0, size_of]
  have hs2 : ∀ k, s0.extract k s0.size = ⟨(l.drop k).toArray⟩ := fun k => by rw [hss, ← hs0, xstr_drop]
  have hsz : s0.size ≤ 1000000 := by omega
  have HR := Lib.hid (fun (k : Nat) (h3 : (l.take k).all blkB = true) (h4 : l.length ≤ k ∨ ∃ u, l[k]? = some u ∧ blkB u = false) => (tw_stop h3 h4).2)
  have HBL := Lib.hid hbl
  have HSS := Lib.hid hss
  have HS := Lib.hid hs2
  rw [hs0]
  clear hs0 hbl hss hs2 hl
  go_enter Try.func45, Try.ntmps45
  go_wp2_with fail
  go_loop [3] (fun v => ∃ k : Nat, v = .int .i64 (k : Int) ∧ k ≤ s0.size ∧ Hid (((bl s0).take k).all blkB = true)) (fun v => s0.size - (intOf v).toNat)
  case atStart => exact ⟨0, rfl, Nat.zero_le _, Lib.hid rfl⟩
  case round =>
    obtain ⟨k, rfl, hks, HA⟩ := hrel
    have fin : (s0.size ≤ k ∨ ∃ u, (bl s0)[k]? = some u ∧ blkB u = false) → l.dropWhile blkB = l.drop k := fun h4 => HR.out k (by have := HA.out; rwa [HBL.out] at this) (by have := HSS.out; have := HBL.out; rcases h4 with h4 | h4; left; omega; right; rwa [HBL.out] at h4)
    have FIN := Lib.hid fin
    clear fin
    by_cases hp : k < s0.size
    · have hu := bl_get s0 k hp
      obtain ⟨u, hu0⟩ : ∃ u, s0[k] = u := ⟨_, rfl⟩
      rw [hu0] at hu
      have hu8 := u.toNat_lt
      have HM := Lib.hid (fun W => refBlank8_any (u.toNat : Int) W (by omega) (by omega))
      rw [blkR_of] at HM
      cases hg : blkB u with
      | true =>
        have HN := Lib.hid (all_more HA.out hu hg)
        rw [hg] at HM
        clear hg hu FIN
        go_wp2_with fail
        (with_reducible refine (HM.out _).mono ?_)
        rintro e w1 ⟨rfl, rfl⟩
        go_wp2_with fail
        go_round
        case rel => exact ⟨k + 1, by go_num, by omega, HN⟩
        case measure => simp [intOf]; omega
      | false =>
        have HF := Lib.hid (FIN.out (.inr ⟨u, hu, hg⟩))
        rw [hg] at HM
        clear hg hu FIN
        go_wp2_with fail
        (with_reducible refine (HM.out _).mono ?_)
        rintro e w1 ⟨rfl, rfl⟩
        go_wp2_with fail
        go_ret
        exact ⟨by rw [HF.out, HS.out]; rfl, rfl⟩
    · have HF := Lib.hid (FIN.out (.inl (by omega)))
      clear FIN
      go_wp2_with fail
      go_ret
      exact ⟨by rw [HF.out, HS.out]; rfl, rfl⟩
theorem refHas8_any (l p : List UInt8) (w : World) (hl : l.length ≤ 1000000) (hp : p.length ≤ 1000000) : Calls Try.prog 42 #[.string ⟨l.toArray⟩, .string ⟨p.toArray⟩] w fun e w' => e = .returned (.bool (Lib.hasPrefix l p)) ∧ w' = w := by
  obtain ⟨s0, hs0⟩ : ∃ s0, ByteArray.mk l.toArray = s0 := ⟨_, rfl⟩
  obtain ⟨p0, hp0⟩ : ∃ p0, ByteArray.mk p.toArray = p0 := ⟨_, rfl⟩
  have hss : s0.size = l.length := by rw [← hs0, size_of]
  have hps : p0.size = p.length := by rw [← hp0, size_of]
  have hs1 : p0.size ≤ s0.size → ((s0.extract 0 p0.size).toList == p0.toList) = Lib.hasPrefix l p := fun h => by
    rw [hps, ← hs0, ← hp0, xstr_take, ByteArray.toList_eq, ByteArray.toList_eq, Bool.eq_iff_iff, has_iff]
    simp only [beq_iff_eq]
    constructor
    · intro e
      have : l.take p.length = p := by simpa using e
      exact ⟨l.drop p.length, by conv => lhs; rw [← List.take_append_drop p.length l, this]⟩
    · rintro ⟨t, rfl⟩
      simp
  have hs2 : ¬ p0.size ≤ s0.size → Lib.hasPrefix l p = false := fun h => by
    cases hb : Lib.hasPrefix l p with
    | false => rfl
    | true => have := has_len hb; omega
  have hz1 : s0.size ≤ 1000000 := by omega
  have hz2 : p0.size ≤ 1000000 := by omega
  rw [hs0, hp0]
  clear hs0 hp0 hss hps hl hp
  by_cases hle : p0.size ≤ s0.size
  · have HV := Lib.hid (hs1 hle)
    clear hs1 hs2
    go_enter Try.func42, Try.ntmps42
    go_wp2_with fail
    go_ret
    exact ⟨by rw [← HV.out]; rfl, rfl⟩
  · have HV := Lib.hid (hs2 hle)
    clear hs1 hs2
    go_enter Try.func42, Try.ntmps42
    go_wp2_with fail
    go_ret
    exact ⟨by rw [HV.out]; rfl, rfl⟩
theorem refFind8_any (l p : List UInt8) (w : World) (hl : l.length ≤ 1000000) (hp : p.length ≤ 1000000) (hne : p ≠ []) : Calls Try.prog 40 #[.string ⟨l.toArray⟩, .string ⟨p.toArray⟩] w fun e w' => e = .returned (.int .i64 (Lib.index l p)) ∧ w' = w := by
  obtain ⟨s0, hs0⟩ : ∃ s0, ByteArray.mk l.toArray = s0 := ⟨_, rfl⟩
  obtain ⟨p0, hp0⟩ : ∃ p0, ByteArray.mk p.toArray = p0 := ⟨_, rfl⟩
  have hss : s0.size = l.length := by rw [← hs0, size_of]
  have hps : p0.size = p.length := by rw [← hp0, size_of]
  have hpp : 0 < p0.size := by
    rw [hps]
    cases p with
    | nil => exact absurd rfl hne
    | cons c t => simp
  have hs1 : ∀ i, i + p0.size ≤ s0.size → ((s0.extract i (i + p0.size)).toList == p0.toList) = Lib.occAt l p i := fun i h => by
    rw [Lib.occAt_iff_take _ _ _ (by omega), ByteArray.toList_eq, ByteArray.toList_eq]
    have e1 : (s0.extract i (i + p0.size)).data.toList = (l.drop i).take p.length := by
      have := bl_mid s0 i (i + p0.size)
      have hb : bl s0 = l := by rw [← hs0, bl_of]
      rw [hb, Nat.add_sub_cancel_left, hps] at this
      rw [hps]
      exact this
    have e2 : p0.data.toList = p := by rw [← hp0]
    rw [e1, e2]
  have hz1 : s0.size ≤ 1000000 := by omega
  have hz2 : p0.size ≤ 1000000 := by omega
  have HS1 := Lib.hid hs1
  have HSS := Lib.hid (And.intro hss hps)
  have HNE := Lib.hid hne
  rw [hs0, hp0]
  clear hs0 hp0 hss hps hl hp hs1 hne
  go_enter Try.func40, Try.ntmps40
  go_wp2_with fail
  go_loop [5] (fun v => ∃ i : Nat, v = .int .i64 (i : Int) ∧ i ≤ s0.size ∧ Hid (Lib.NoOcc l p i)) (fun v => s0.size + 1 - (intOf v).toNat)
  case atStart => exact ⟨0, rfl, Nat.zero_le _, Lib.hid (fun j h => absurd h (Nat.not_lt_zero _))⟩
  case round =>
    obtain ⟨i, rfl, his, HA⟩ := hrel
    by_cases hle : i + p0.size ≤ s0.size
    · have d1 : decide ((i : Int) + (p0.size : Int) ≤ (s0.size : Int)) = true := by simp; omega
      have d2 : (i : Int) + (p0.size : Int) ≤ (s0.size : Int) := by omega
      have hx := HS1.out i hle
      cases ho : Lib.occAt l p i with
      | true =>
        rw [ho] at hx
        have HV : Hid (Lib.index l p = i) := Lib.hid (Lib.index_hit HA.out (by have := HSS.out.1; omega) ho)
        clear ho
        go_wp2_with fail
        go_ret
        exact ⟨by rw [HV.out]; rfl, rfl⟩
      | false =>
        rw [ho] at hx
        have HN : Hid (Lib.NoOcc l p (i + 1)) := Lib.hid (fun j h => by
          by_cases e : j = i
          · subst e; exact ho
          · exact HA.out j (by omega))
        clear ho
        go_wp2_with fail
        go_round
        case rel => exact ⟨i + 1, by go_num, by omega, HN⟩
        case measure => simp [intOf]; omega
    · have d1 : decide ((i : Int) + (p0.size : Int) ≤ (s0.size : Int)) = false := by simp; omega
      have HV : Hid (Lib.index l p = -1) := Lib.hid (Lib.index_past HNE.out HA.out (by have := HSS.out; omega))
      go_wp2_with fail
      go_ret
      exact ⟨by rw [HV.out]; rfl, rfl⟩
end Go.Proofs.Ytjmmgekildlckaa
