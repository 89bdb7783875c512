/-
  odd; the document's Attrs, may, May.
-/
import Derived.Test.YtnagckdaleafdaaXnA
namespace Go.Proofs.Ytnagckdaleafdaa
open Go.RowKit Go.Nst
set_option maxRecDepth 100000
set_option linter.unusedVariables false
set_option linter.unusedSimpArgs false

set_option maxHeartbeats 4000000 in
theorem refAttrs8_any (l : List Xat) (A : Option Addr) (n c : Nat) (w : World) (S : Nat → Prop) (hk : XaA w S A n l) (hc : n ≤ c ∧ c ≤ 9223372036854775807) (hs : ∀ a ∈ l, a.nm.length ≤ 100000) (hn : n ≤ 100000) :
    Calls Try.prog 49 #[.slice A n c] w fun e w' => e = .returned (.bool (attrsOk l)) ∧ Below w.heap.size w w' := by
  have HLN := Lib.hid hk.len
  have HS := Lib.hid hs
  have hc1 := hc.1
  have hc2 := hc.2
  clear hc hs
  go_enter Try.func49, Try.ntmps49
  go_wp2_with fail
  go_loopw [3] (fun i wr => ∃ (k : Nat), k ≤ n ∧ i = .int .i64 k ∧ Hid ((l.take k).all (fun a => isName a.nm) = true) ∧ Hid (((l.map Xat.nm).take k).Nodup) ∧ Below w.heap.size w wr) (fun i _ => n - (intOf i).toNat)
  case atStart => exact ⟨0, Nat.zero_le _, rfl, Lib.hid (by simp), Lib.hid (by simp), Below.refl _ _⟩
  case round =>
    obtain ⟨k, hkl, rfl, hall, hnd, hb⟩ := hrel
    by_cases hlt : k < n
    · have hkr := hk.bel xaP hb
      obtain ⟨a, b, off, hg, hA, -, hbs, g1, g2, f0, f1⟩ := xa_at hkr hlt
      have hlt' : decide (k < n) = true := by simpa using hlt
      have hki : (k : Int) < (n : Int) := by omega
      have hal := HS.out a (List.mem_of_getElem? hg.out)
      have HN := Lib.hid (fun W => refNameT8_any a.nm W (by omega))
      cases hnm : isName a.nm with
      | false =>
        rw [hnm] at HN
        have HE := Lib.hid (odd_bad hg.out hnm)
        subst hA
        clear hnm
        go_wp2_with fail
        (with_reducible refine (HN.out _).mono ?_)
        rintro e w2 ⟨rfl, hb2⟩
        go_wp2_with fail
        go_ret
        exact ⟨by rw [HE.out]; rfl, bel_step hb hb2⟩
      | true =>
        rw [hnm] at HN
        have HAL : Hid ((l.take (k + 1)).all (fun a => isName a.nm) = true) := Lib.hid (by rw [List.take_add_one, hg.out, List.all_append, hall.out]; simp [hnm])
        have hA2 := hA
        subst hA
        clear hnm
        go_wp2_with fail
        (with_reducible refine (HN.out _).mono ?_)
        rintro e w2 ⟨rfl, hb2⟩
        have hb3 := bel_step hb hb2
        have HKR := Lib.hid (hkr.bel xaP hb2)
        have f0' : w2.cell? ⟨b, off + k * 2, none⟩ = some (.string ⟨a.nm.toArray⟩) := by rw [World.cell?_of_block (hb2.block b hbs)]; exact f0
        clear hkr f0 f1 hb2
        go_wp2_with fail
        obtain ⟨wo, hwo⟩ : ∃ wo : World, wo = w2 := ⟨_, rfl⟩
        rw [← hwo] at HKR f0' hb3 ⊢
        clear hwo
        go_loopw [4] (fun v wv => ∃ (i j : Nat), v = .int .i64 (i : Int) ∧ i ≤ k ∧ wv = wo.drewN j ∧ Hid (a.nm ∉ (l.map Xat.nm).take i)) (fun v _ => k - (intOf v).toNat)
        case atStart => exact ⟨0, 0, rfl, Nat.zero_le _, rfl, Lib.hid (by simp)⟩
        case round =>
          obtain ⟨i, j, rfl, hik, rfl, hno⟩ := hrel
          by_cases hlt2 : i < k
          · have hli : (i : Int) < (n : Int) := by omega
            have hlik : (i : Int) < (k : Int) := by omega
            have hlt2' : decide (i < k) = true := by simpa using hlt2
            obtain ⟨y, b2, off2, hg2, hA3, -, hbs2, g12, g22, y0, y1⟩ := xa_at HKR.out (show i < n by omega)
            injection hA3 with hA3
            injection hA3 with hA3 hA4
            subst hA3 hA4
            cases hyn : (y.nm == a.nm) with
            | true =>
              have HE : Hid (attrsOk l = false) := Lib.hid (by
                unfold attrsOk
                have : ¬ (l.map Xat.nm).Nodup := by
                  intro hnd2
                  rw [List.nodup_iff_pairwise_ne, List.pairwise_iff_getElem] at hnd2
                  have hg1' := List.getElem?_eq_some_iff.1 hg.out
                  have hg2' := List.getElem?_eq_some_iff.1 hg2.out
                  obtain ⟨q1, e1⟩ := hg1'
                  obtain ⟨q2, e2⟩ := hg2'
                  have := hnd2 i k (by simpa using q2) (by simpa using q1) hlt2
                  simp only [List.getElem_map, e1, e2] at this
                  exact this (by simpa using hyn)
                simp [this])
              go_wp2_with fail
              go_quiet (fail)
              go_wp2_with fail
              go_ret
              exact ⟨by rw [HE.out]; rfl, Nst.below_drewN (Nst.below_drewN hb3 _) _⟩
            | false =>
              have HN2 : Hid (a.nm ∉ (l.map Xat.nm).take (i + 1)) := Lib.hid (by
                rw [List.take_add_one, List.getElem?_map, hg2.out]
                simp only [Option.map_some, Option.toList_some, List.mem_append, List.mem_cons, List.not_mem_nil, or_false, not_or]
                exact ⟨hno.out, fun e => by rw [e] at hyn; simp at hyn⟩)
              go_wp2_with fail
              go_quiet (fail)
              go_wp2_with fail
              go_roundw
              case rel => exact ⟨i + 1, j + nq, by go_num, by omega, by simp, HN2⟩
              case measure => simp [intOf]; omega
          · obtain rfl : i = k := by omega
            have hlt2' : decide (i < i) = false := by simp
            have HND : Hid (((l.map Xat.nm).take (i + 1)).Nodup) := Lib.hid (by
              rw [List.take_add_one, List.getElem?_map, hg.out]
              exact nodup_snoc.2 ⟨hnd.out, hno.out⟩)
            have HB9 := Lib.hid (Nst.below_drewN hb3 j)
            clear HKR hb3 f0'
            go_wp2_with fail
            go_roundw
            case rel => exact ⟨i + 1, by omega, by go_num, HAL, HND, HB9.out⟩
            case measure => simp [intOf]; omega
    · obtain rfl : k = n := by omega
      have hlt' : decide (k < k) = false := by simp
      have hta : l.take k = l := List.take_of_length_le (by have := HLN.out; omega)
      have htm : (l.map Xat.nm).take k = l.map Xat.nm := List.take_of_length_le (by rw [List.length_map]; have := HLN.out; omega)
      rw [hta] at hall
      rw [htm] at hnd
      have hE : attrsOk l = decide (k ≤ 32) := by unfold attrsOk; rw [hall.out, HLN.out]; simp [hnd.out]
      by_cases h32 : k ≤ 32
      · have d1 : decide ((k : Int) ≤ (32 : Int)) = true := by simp; omega
        have d1' : decide (k ≤ 32) = true := by simpa using h32
        have HE : Hid (attrsOk l = true) := Lib.hid (by rw [hE]; exact d1')
        clear hE hta htm
        go_wp2_with fail
        go_ret
        exact ⟨by rw [HE.out]; rfl, hb⟩
      · have d1 : decide ((k : Int) ≤ (32 : Int)) = false := by simp; omega
        have d1' : decide (k ≤ 32) = false := by simpa using h32
        have HE : Hid (attrsOk l = false) := Lib.hid (by rw [hE]; exact d1')
        clear hE hta htm
        go_wp2_with fail
        go_ret
        exact ⟨by rw [HE.out]; rfl, hb⟩
set_option maxHeartbeats 4000000 in
theorem odd8_any (k : Int) (nm : List UInt8) (ats : List Xat) (tx : List UInt8) (B : Option Addr) (d : Nat) (was : Int) (w : World) (S : Nat → Prop) (hk : XaA w S B ats.length ats) (hd : ats.length ≤ d ∧ d ≤ 9223372036854775807) (hnm : nm.length ≤ 100000) (hs : ∀ a ∈ ats, a.nm.length ≤ 100000) (hn : ats.length ≤ 100000) :
    Calls Try.prog 22 #[.agg (xtV ⟨k, nm, ats, tx⟩ B ats.length d), .int .i64 was] w fun e w' => e = .returned (.bool (!mayT ⟨k, nm, ats, tx⟩ was)) ∧ Below w.heap.size w w' := by
  have B0 := bel_alloc (Below.refl w.heap.size w) (.cells (xtV ⟨k, nm, ats, tx⟩ B ats.length d) 36)
  have HN := Lib.hid (fun W => Name8_any nm W (by omega))
  have HA := Lib.hid (fun W (h : XaA W S B ats.length ats) => oddAttrs8_any ats B ats.length d W S h hd hs hn)
  have HK := Lib.hid (hk.bel xaP B0)
  have hd1 := hd.1
  have hd2 := hd.2
  clear hk hs hd
  simp only [xtV] at B0 HK ⊢
  have HB0 := Lib.hid B0
  clear B0
  by_cases h1 : k = 1
  · subst h1
    cases hi : isName nm with
    | false =>
      have HE : Hid (mayT ⟨1, nm, ats, tx⟩ was = false) := Lib.hid (by simp [mayT, hi])
      rw [hi] at HN
      clear hi
      go_enter Try.func22, Try.ntmps22
      go_wp2_with fail
      (with_reducible refine (HN.out _).mono ?_)
      rintro e w1 ⟨rfl, hb⟩
      go_wp2_with fail
      go_ret
      exact ⟨by rw [HE.out]; rfl, bel_step HB0.out hb⟩
    | true =>
      rw [hi] at HN
      cases tx with
      | cons c t =>
        have HE : Hid (mayT ⟨1, nm, ats, c :: t⟩ was = false) := Lib.hid (by simp [mayT])
        have hx1 : ((⟨(c :: t).toArray⟩ : ByteArray) == ⟨#[]⟩) = false := rfl
        clear hi
        go_enter Try.func22, Try.ntmps22
        go_wp2_with fail
        (with_reducible refine (HN.out _).mono ?_)
        rintro e w1 ⟨rfl, hb⟩
        have zk := (Blk.new w 36 _).below hb (by simp)
        have z0 := zk.cell 0
        have z1 := zk.cell 1
        have z2 := zk.cell 2
        have z3 := zk.cell 3
        simp at z0 z1 z2 z3
        go_wp2_with fail
        go_ret
        exact ⟨by rw [HE.out]; rfl, bel_step HB0.out hb⟩
      | nil =>
        have HE : Hid (mayT ⟨1, nm, ats, []⟩ was = attrsOk ats) := Lib.hid (by simp [mayT, hi])
        clear hi
        go_enter Try.func22, Try.ntmps22
        go_wp2_with fail
        (with_reducible refine (HN.out _).mono ?_)
        rintro e w1 ⟨rfl, hb⟩
        have zk := (Blk.new w 36 _).below hb (by simp)
        have z0 := zk.cell 0
        have z1 := zk.cell 1
        have z2 := zk.cell 2
        have z3 := zk.cell 3
        simp at z0 z1 z2 z3
        have HAA := Lib.hid (HA.out _ (HK.out.bel xaP hb))
        clear HA
        go_wp2_with fail
        (with_reducible refine (HAA.out).mono ?_)
        rintro e w2 ⟨rfl, hb2⟩
        go_wp2_with fail
        go_ret
        exact ⟨by rw [HE.out]; rfl, bel_step (bel_step HB0.out hb) hb2⟩
  by_cases h2 : k = 2
  · subst h2
    cases hi : isName nm with
    | false =>
      have HE : Hid (mayT ⟨2, nm, ats, tx⟩ was = false) := Lib.hid (by simp [mayT, hi])
      rw [hi] at HN
      clear hi
      go_enter Try.func22, Try.ntmps22
      go_wp2_with fail
      (with_reducible refine (HN.out _).mono ?_)
      rintro e w1 ⟨rfl, hb⟩
      go_wp2_with fail
      go_ret
      exact ⟨by rw [HE.out]; rfl, bel_step HB0.out hb⟩
    | true =>
      rw [hi] at HN
      cases tx with
      | cons c t =>
        have HE : Hid (mayT ⟨2, nm, ats, c :: t⟩ was = false) := Lib.hid (by simp [mayT])
        have hx1 : ((⟨(c :: t).toArray⟩ : ByteArray) == ⟨#[]⟩) = false := rfl
        clear hi
        go_enter Try.func22, Try.ntmps22
        go_wp2_with fail
        (with_reducible refine (HN.out _).mono ?_)
        rintro e w1 ⟨rfl, hb⟩
        have zk := (Blk.new w 36 _).below hb (by simp)
        have z0 := zk.cell 0
        have z1 := zk.cell 1
        have z2 := zk.cell 2
        have z3 := zk.cell 3
        simp at z0 z1 z2 z3
        go_wp2_with fail
        go_ret
        exact ⟨by rw [HE.out]; rfl, bel_step HB0.out hb⟩
      | nil =>
        cases ats with
        | nil =>
          have HE : Hid (mayT ⟨2, nm, [], []⟩ was = true) := Lib.hid (by simp [mayT, hi])
          clear hi
          go_enter Try.func22, Try.ntmps22
          go_wp2_with fail
          (with_reducible refine (HN.out _).mono ?_)
          rintro e w1 ⟨rfl, hb⟩
          have zk := (Blk.new w 36 _).below hb (by simp)
          have z0 := zk.cell 0
          have z1 := zk.cell 1
          have z2 := zk.cell 2
          have z3 := zk.cell 3
          simp at z0 z1 z2 z3
          go_wp2_with fail
          go_ret
          exact ⟨by rw [HE.out]; rfl, bel_step HB0.out hb⟩
        | cons a rs =>
          have HE : Hid (mayT ⟨2, nm, a :: rs, []⟩ was = false) := Lib.hid (by simp [mayT])
          clear hi
          go_enter Try.func22, Try.ntmps22
          go_wp2_with fail
          (with_reducible refine (HN.out _).mono ?_)
          rintro e w1 ⟨rfl, hb⟩
          have zk := (Blk.new w 36 _).below hb (by simp)
          have z0 := zk.cell 0
          have z1 := zk.cell 1
          have z2 := zk.cell 2
          have z3 := zk.cell 3
          simp at z0 z1 z2 z3
          go_wp2_with fail
          go_ret
          exact ⟨by rw [HE.out]; rfl, bel_step HB0.out hb⟩
  by_cases h3 : k = 3
  · subst h3
    cases nm with
    | cons c t =>
      have HE : Hid (mayT ⟨3, c :: t, ats, tx⟩ was = false) := Lib.hid (by simp [mayT])
      have hx1 : ((⟨(c :: t).toArray⟩ : ByteArray) == ⟨#[]⟩) = false := rfl
      go_enter Try.func22, Try.ntmps22
      go_wp2_with fail
      go_ret
      exact ⟨by rw [HE.out]; rfl, HB0.out⟩
    | nil =>
      cases tx with
      | nil =>
        have HE : Hid (mayT ⟨3, [], ats, []⟩ was = false) := Lib.hid (by simp [mayT])
        go_enter Try.func22, Try.ntmps22
        go_wp2_with fail
        go_ret
        exact ⟨by rw [HE.out]; rfl, HB0.out⟩
      | cons c t =>
        have hx1 : ((⟨(c :: t).toArray⟩ : ByteArray) == ⟨#[]⟩) = false := rfl
        cases ats with
        | cons a rs =>
          have HE : Hid (mayT ⟨3, [], a :: rs, c :: t⟩ was = false) := Lib.hid (by simp [mayT])
          go_enter Try.func22, Try.ntmps22
          go_wp2_with fail
          go_ret
          exact ⟨by rw [HE.out]; rfl, HB0.out⟩
        | nil =>
          by_cases hw : was = 3
          · subst hw
            have HE : Hid (mayT ⟨3, [], [], c :: t⟩ 3 = false) := Lib.hid (by simp [mayT])
            go_enter Try.func22, Try.ntmps22
            go_wp2_with fail
            go_ret
            exact ⟨by rw [HE.out]; rfl, HB0.out⟩
          · have hw1 : (was == 3) = false := by simpa using hw
            have hw2 : (was != 3) = true := by simpa using hw
            have HE : Hid (mayT ⟨3, [], [], c :: t⟩ was = true) := Lib.hid (by simp [mayT, hw])
            clear hw
            go_enter Try.func22, Try.ntmps22
            go_wp2_with fail
            go_ret
            exact ⟨by rw [HE.out]; rfl, HB0.out⟩
  · have e1 : (k == 1) = false := by simpa using h1
    have e2 : (k == 2) = false := by simpa using h2
    have e3 : (k == 3) = false := by simpa using h3
    have HE : Hid (mayT ⟨k, nm, ats, tx⟩ was = false) := Lib.hid (by simp [mayT, h1, h2, h3])
    clear h1 h2 h3
    go_enter Try.func22, Try.ntmps22
    go_wp2_with fail
    go_ret
    exact ⟨by rw [HE.out]; rfl, HB0.out⟩
set_option maxHeartbeats 4000000 in
theorem may8_any (k : Int) (nm : List UInt8) (ats : List Xat) (tx : List UInt8) (B : Option Addr) (d : Nat) (was : Int) (w : World) (S : Nat → Prop) (hk : XaA w S B ats.length ats) (hd : ats.length ≤ d ∧ d ≤ 9223372036854775807) (hnm : nm.length ≤ 100000) (hs : ∀ a ∈ ats, a.nm.length ≤ 100000) (hn : ats.length ≤ 100000) :
    Calls Try.prog 25 #[.agg (xtV ⟨k, nm, ats, tx⟩ B ats.length d), .int .i64 was] w fun e w' => e = .returned (.bool (mayT ⟨k, nm, ats, tx⟩ was)) ∧ Below w.heap.size w w' := by
  have B0 := bel_alloc (Below.refl w.heap.size w) (.cells (xtV ⟨k, nm, ats, tx⟩ B ats.length d) 36)
  have HN := Lib.hid (fun W => refNameT8_any nm W (by omega))
  have HA := Lib.hid (fun W (h : XaA W S B ats.length ats) => refAttrs8_any ats B ats.length d W S h hd hs hn)
  have HK := Lib.hid (hk.bel xaP B0)
  have hd1 := hd.1
  have hd2 := hd.2
  clear hk hs hd
  simp only [xtV] at B0 HK ⊢
  have HB0 := Lib.hid B0
  clear B0
  by_cases h1 : k = 1
  · subst h1
    cases hi : isName nm with
    | false =>
      have HE : Hid (mayT ⟨1, nm, ats, tx⟩ was = false) := Lib.hid (by simp [mayT, hi])
      rw [hi] at HN
      clear hi
      go_enter Try.func25, Try.ntmps25
      go_wp2_with fail
      (with_reducible refine (HN.out _).mono ?_)
      rintro e w1 ⟨rfl, hb⟩
      go_wp2_with fail
      go_ret
      exact ⟨by rw [HE.out]; rfl, bel_step HB0.out hb⟩
    | true =>
      rw [hi] at HN
      cases tx with
      | cons c t =>
        have HE : Hid (mayT ⟨1, nm, ats, c :: t⟩ was = false) := Lib.hid (by simp [mayT])
        have hx1 : ((⟨(c :: t).toArray⟩ : ByteArray) == ⟨#[]⟩) = false := rfl
        clear hi
        go_enter Try.func25, Try.ntmps25
        go_wp2_with fail
        (with_reducible refine (HN.out _).mono ?_)
        rintro e w1 ⟨rfl, hb⟩
        have zk := (Blk.new w 36 _).below hb (by simp)
        have z0 := zk.cell 0
        have z1 := zk.cell 1
        have z2 := zk.cell 2
        have z3 := zk.cell 3
        simp at z0 z1 z2 z3
        go_wp2_with fail
        go_ret
        exact ⟨by rw [HE.out]; rfl, bel_step HB0.out hb⟩
      | nil =>
        have HE : Hid (mayT ⟨1, nm, ats, []⟩ was = attrsOk ats) := Lib.hid (by simp [mayT, hi])
        clear hi
        go_enter Try.func25, Try.ntmps25
        go_wp2_with fail
        (with_reducible refine (HN.out _).mono ?_)
        rintro e w1 ⟨rfl, hb⟩
        have zk := (Blk.new w 36 _).below hb (by simp)
        have z0 := zk.cell 0
        have z1 := zk.cell 1
        have z2 := zk.cell 2
        have z3 := zk.cell 3
        simp at z0 z1 z2 z3
        have HAA := Lib.hid (HA.out _ (HK.out.bel xaP hb))
        clear HA
        go_wp2_with fail
        (with_reducible refine (HAA.out).mono ?_)
        rintro e w2 ⟨rfl, hb2⟩
        go_wp2_with fail
        go_ret
        exact ⟨by rw [HE.out]; rfl, bel_step (bel_step HB0.out hb) hb2⟩
  by_cases h2 : k = 2
  · subst h2
    cases hi : isName nm with
    | false =>
      have HE : Hid (mayT ⟨2, nm, ats, tx⟩ was = false) := Lib.hid (by simp [mayT, hi])
      rw [hi] at HN
      clear hi
      go_enter Try.func25, Try.ntmps25
      go_wp2_with fail
      (with_reducible refine (HN.out _).mono ?_)
      rintro e w1 ⟨rfl, hb⟩
      go_wp2_with fail
      go_ret
      exact ⟨by rw [HE.out]; rfl, bel_step HB0.out hb⟩
    | true =>
      rw [hi] at HN
      cases tx with
      | cons c t =>
        have HE : Hid (mayT ⟨2, nm, ats, c :: t⟩ was = false) := Lib.hid (by simp [mayT])
        have hx1 : ((⟨(c :: t).toArray⟩ : ByteArray) == ⟨#[]⟩) = false := rfl
        clear hi
        go_enter Try.func25, Try.ntmps25
        go_wp2_with fail
        (with_reducible refine (HN.out _).mono ?_)
        rintro e w1 ⟨rfl, hb⟩
        have zk := (Blk.new w 36 _).below hb (by simp)
        have z0 := zk.cell 0
        have z1 := zk.cell 1
        have z2 := zk.cell 2
        have z3 := zk.cell 3
        simp at z0 z1 z2 z3
        go_wp2_with fail
        go_ret
        exact ⟨by rw [HE.out]; rfl, bel_step HB0.out hb⟩
      | nil =>
        cases ats with
        | nil =>
          have HE : Hid (mayT ⟨2, nm, [], []⟩ was = true) := Lib.hid (by simp [mayT, hi])
          clear hi
          go_enter Try.func25, Try.ntmps25
          go_wp2_with fail
          (with_reducible refine (HN.out _).mono ?_)
          rintro e w1 ⟨rfl, hb⟩
          have zk := (Blk.new w 36 _).below hb (by simp)
          have z0 := zk.cell 0
          have z1 := zk.cell 1
          have z2 := zk.cell 2
          have z3 := zk.cell 3
          simp at z0 z1 z2 z3
          go_wp2_with fail
          go_ret
          exact ⟨by rw [HE.out]; rfl, bel_step HB0.out hb⟩
        | cons a rs =>
          have HE : Hid (mayT ⟨2, nm, a :: rs, []⟩ was = false) := Lib.hid (by simp [mayT])
          clear hi
          go_enter Try.func25, Try.ntmps25
          go_wp2_with fail
          (with_reducible refine (HN.out _).mono ?_)
          rintro e w1 ⟨rfl, hb⟩
          have zk := (Blk.new w 36 _).below hb (by simp)
          have z0 := zk.cell 0
          have z1 := zk.cell 1
          have z2 := zk.cell 2
          have z3 := zk.cell 3
          simp at z0 z1 z2 z3
          go_wp2_with fail
          go_ret
          exact ⟨by rw [HE.out]; rfl, bel_step HB0.out hb⟩
  by_cases h3 : k = 3
  · subst h3
    cases nm with
    | cons c t =>
      have HE : Hid (mayT ⟨3, c :: t, ats, tx⟩ was = false) := Lib.hid (by simp [mayT])
      have hx1 : ((⟨(c :: t).toArray⟩ : ByteArray) == ⟨#[]⟩) = false := rfl
      go_enter Try.func25, Try.ntmps25
      go_wp2_with fail
      go_ret
      exact ⟨by rw [HE.out]; rfl, HB0.out⟩
    | nil =>
      cases tx with
      | nil =>
        have HE : Hid (mayT ⟨3, [], ats, []⟩ was = false) := Lib.hid (by simp [mayT])
        go_enter Try.func25, Try.ntmps25
        go_wp2_with fail
        go_ret
        exact ⟨by rw [HE.out]; rfl, HB0.out⟩
      | cons c t =>
        have hx1 : ((⟨(c :: t).toArray⟩ : ByteArray) == ⟨#[]⟩) = false := rfl
        cases ats with
        | cons a rs =>
          have HE : Hid (mayT ⟨3, [], a :: rs, c :: t⟩ was = false) := Lib.hid (by simp [mayT])
          go_enter Try.func25, Try.ntmps25
          go_wp2_with fail
          go_ret
          exact ⟨by rw [HE.out]; rfl, HB0.out⟩
        | nil =>
          by_cases hw : was = 3
          · subst hw
            have HE : Hid (mayT ⟨3, [], [], c :: t⟩ 3 = false) := Lib.hid (by simp [mayT])
            go_enter Try.func25, Try.ntmps25
            go_wp2_with fail
            go_ret
            exact ⟨by rw [HE.out]; rfl, HB0.out⟩
          · have hw1 : (was == 3) = false := by simpa using hw
            have hw2 : (was != 3) = true := by simpa using hw
            have HE : Hid (mayT ⟨3, [], [], c :: t⟩ was = true) := Lib.hid (by simp [mayT, hw])
            clear hw
            go_enter Try.func25, Try.ntmps25
            go_wp2_with fail
            go_ret
            exact ⟨by rw [HE.out]; rfl, HB0.out⟩
  · have e1 : (k == 1) = false := by simpa using h1
    have e2 : (k == 2) = false := by simpa using h2
    have e3 : (k == 3) = false := by simpa using h3
    have HE : Hid (mayT ⟨k, nm, ats, tx⟩ was = false) := Lib.hid (by simp [mayT, h1, h2, h3])
    clear h1 h2 h3
    go_enter Try.func25, Try.ntmps25
    go_wp2_with fail
    go_ret
    exact ⟨by rw [HE.out]; rfl, HB0.out⟩
set_option maxHeartbeats 4000000 in
theorem refMay8_any (l : List Xtk) (A : Option Addr) (n c : Nat) (w : World) (S : Nat → Prop) (hk : XtA w S A n l) (hc : n ≤ c ∧ c ≤ 9223372036854775807) (hs : ∀ t ∈ l, t.nm.length ≤ 100000 ∧ t.ats.length ≤ 100000 ∧ ∀ a ∈ t.ats, a.nm.length ≤ 100000) :
    Calls Try.prog 13 #[.slice A n c] w fun e w' => e = .returned (.bool (mayD 0 l)) ∧ Below w.heap.size w w' := by
  have HLN := Lib.hid hk.len
  have HS := Lib.hid hs
  have hc1 := hc.1
  have hc2 := hc.2
  clear hc hs
  go_enter Try.func13, Try.ntmps13
  go_wp2_with fail
  go_loopw [3, 4] (fun v i wr => ∃ (k : Nat) (was : Int), k ≤ n ∧ i = .int .i64 k ∧ v = .int .i64 was ∧ Hid (mayD 0 l = mayD was (l.drop k)) ∧ Below w.heap.size w wr) (fun _ i _ => n - (intOf i).toNat)
  case atStart => exact ⟨0, 0, Nat.zero_le _, rfl, rfl, Lib.hid rfl, Below.refl _ _⟩
  case round =>
    obtain ⟨k, was, hkl, rfl, rfl, HV, hb⟩ := hrel
    by_cases hlt : k < n
    · obtain ⟨t, B, d, b, off, hg, rfl, hS, hbs, hP, k1, k2, k3, k4, k5, HA, f0, f1, f2, f3⟩ := xt_at (hk.bel xtP hb) hlt
      obtain ⟨kd, nm, ats, tx⟩ := t
      have hlt' : decide (k < n) = true := by simpa using hlt
      have hki : (k : Int) < (n : Int) := by omega
      obtain ⟨q1, q2, q3⟩ := HS.out _ (List.mem_of_getElem? hg.out)
      have hdr : l.drop k = ⟨kd, nm, ats, tx⟩ :: l.drop (k + 1) := by
        have h1 := List.getElem?_eq_some_iff.1 hg.out
        obtain ⟨h2, h3⟩ := h1
        rw [List.drop_eq_getElem_cons h2, h3]
      simp only at k1 k2 k3 k4 k5 q1 q2 q3 f0 f1 f2 f3
      have HC := Lib.hid (may8_any kd nm ats tx B d was wr S HA.out ⟨k4, k5⟩ q1 q3 q2)
      simp only [xtV] at HC
      rw [hdr] at HV
      clear hdr q3 hP HA
      cases hm : mayT ⟨kd, nm, ats, tx⟩ was with
      | false =>
        rw [hm] at HC
        have HE : Hid (mayD 0 l = false) := Lib.hid (by rw [HV.out]; simp [mayD, hm])
        clear hm
        go_wp2_with fail
        (with_reducible refine (HC.out).mono ?_)
        rintro e w2 ⟨rfl, hb2⟩
        go_wp2_with fail
        go_ret
        exact ⟨by rw [HE.out]; rfl, bel_step hb hb2⟩
      | true =>
        rw [hm] at HC
        have HE : Hid (mayD 0 l = mayD kd (l.drop (k + 1))) := Lib.hid (by rw [HV.out]; simp [mayD, hm])
        clear hm
        go_wp2_with fail
        (with_reducible refine (HC.out).mono ?_)
        rintro e w2 ⟨rfl, hb2⟩
        have f0' : w2.cell? ⟨b, off + k * 4, none⟩ = some (.int .i64 kd) := by rw [World.cell?_of_block (hb2.block b hbs)]; exact f0
        go_wp2_with fail
        go_roundw
        case rel => exact ⟨k + 1, kd, by omega, by go_num, rfl, HE, bel_step hb hb2⟩
        case measure => simp [intOf]; omega
    · obtain rfl : k = n := by omega
      have hlt' : decide (k < k) = false := by simp
      have HE : Hid (mayD 0 l = true) := Lib.hid (by rw [HV.out, List.drop_eq_nil_of_le (by have := HLN.out; omega)]; rfl)
      go_wp2_with fail
      go_ret
      exact ⟨by rw [HE.out]; rfl, hb⟩
end Go.Proofs.Ytnagckdaleafdaa
