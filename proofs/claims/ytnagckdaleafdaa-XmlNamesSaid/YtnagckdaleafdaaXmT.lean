/-
  Whether two rows of attributes, of tokens, are the same: the code's, the document's.
-/
import Derived.Test.YtnagckdaleafdaaXmS
namespace Go.Proofs.Ytnagckdaleafdaa
open Go.RowKit Go.Nst
set_option maxRecDepth 100000
set_option linter.unusedVariables false
set_option linter.unusedSimpArgs false

theorem take_snoc_eq {α : Type} [DecidableEq α] {l l2 : List α} {k : Nat} {a b : α} (h1 : l[k]? = some a) (h2 : l2[k]? = some b) (h : l.take k = l2.take k) (he : a = b) : l.take (k + 1) = l2.take (k + 1) := by
  rw [List.take_add_one, List.take_add_one, h1, h2, h, he]
theorem ne_of_at {α : Type} {l l2 : List α} {k : Nat} {a b : α} (h1 : l[k]? = some a) (h2 : l2[k]? = some b) (he : a ≠ b) : l ≠ l2 := by
  rintro rfl
  rw [h1] at h2
  injection h2 with h2
  exact he h2
set_option maxHeartbeats 2000000 in
theorem equal8_any (l l2 : List Xat) (A A2 : Option Addr) (n n2 c c2 : Nat) (w : World) (S S2 : Nat → Prop) (hk : XaA w S A n l) (hk2 : XaA w S2 A2 n2 l2) (hc : n ≤ c ∧ c ≤ 9223372036854775807) (hc2 : n2 ≤ c2 ∧ c2 ≤ 9223372036854775807) :
    Calls Try.prog 54 #[.slice A n c, .slice A2 n2 c2] w fun e w' => e = .returned (.bool (decide (l = l2))) ∧ ∃ m, w' = w.drewN m := by
  have hl1 := hk.len
  have hl2 := hk2.len
  have hc1 := hc.1
  have hcc := hc.2
  have hc3 := hc2.1
  have hc4 := hc2.2
  clear hc hc2
  by_cases hlen : n = n2
  · subst hlen
    have HL := Lib.hid (And.intro hl1 hl2)
    clear hl1 hl2
    go_enter Try.func54, Try.ntmps54
    go_wp2_with fail
    go_loopw [13] (fun i wr => ∃ k : Nat, k ≤ n ∧ i = .int .i64 k ∧ Hid (l.take k = l2.take k) ∧ ∃ m, wr = w.drewN m) (fun i _ => n - (intOf i).toNat)
    case atStart => exact ⟨0, Nat.zero_le _, rfl, Lib.hid (by simp), 0, rfl⟩
    case round =>
      obtain ⟨k, hkl, rfl, hsofar, md, rfl⟩ := hrel
      by_cases hlt : k < n
      · obtain ⟨a, b, off, hg, rfl, -, hbs, g1, g2, f0, f1⟩ := xa_at hk hlt
        obtain ⟨a2, b2, off2, hg2, rfl, -, hbs2, g12, g22, f02, f12⟩ := xa_at hk2 hlt
        have hlt' : decide (k < n) = true := by simpa using hlt
        have hki : (k : Int) < (n : Int) := by omega
        cases e1 : (a.nm == a2.nm) with
        | true =>
          cases e2 : (a.vl == a2.vl) with
          | true =>
            have e3 : a = a2 := by
              obtain ⟨x, y⟩ := a
              obtain ⟨x2, y2⟩ := a2
              simp at e1 e2
              rw [e1, e2]
            have HN := Lib.hid (take_snoc_eq hg.out hg2.out hsofar.out e3)
            clear e3
            go_wp2_with fail
            go_quiet (fail)
            go_wp2_with fail
            go_roundw
            case rel => exact ⟨k + 1, by omega, by go_num, HN, md + nq, by simp⟩
            case measure => simp [intOf]; omega
          | false =>
            have HN : Hid (decide (l = l2) = false) := Lib.hid (by simpa using ne_of_at hg.out hg2.out (fun e => by subst e; simp at e2))
            go_wp2_with fail
            go_quiet (fail)
            go_wp2_with fail
            go_ret
            exact ⟨by rw [HN.out]; rfl, md + nq, by simp⟩
        | false =>
          have HN : Hid (decide (l = l2) = false) := Lib.hid (by simpa using ne_of_at hg.out hg2.out (fun e => by subst e; simp at e1))
          go_wp2_with fail
          go_quiet (fail)
          go_wp2_with fail
          go_ret
          exact ⟨by rw [HN.out]; rfl, md + nq, by simp⟩
      · obtain rfl : k = n := by omega
        have hlt' : decide (k < k) = false := by simp
        have HN : Hid (decide (l = l2) = true) := Lib.hid (by
          have := hsofar.out
          rw [List.take_of_length_le (by have := HL.out; omega), List.take_of_length_le (by have := HL.out; omega)] at this
          simpa using this)
        clear hsofar
        go_wp2_with fail
        go_ret
        exact ⟨by rw [HN.out]; rfl, md, rfl⟩
  · have HN : Hid (decide (l = l2) = false) := Lib.hid (by
      simp
      rintro rfl
      omega)
    have hb : ((n : Int) != (n2 : Int)) = true := by simp; omega
    have hb2 : (n != n2) = true := by simpa using hlen
    clear hl1 hl2
    go_enter Try.func54, Try.ntmps54
    go_wp2_with fail
    go_ret
    exact ⟨by rw [HN.out]; rfl, 0, rfl⟩
set_option maxHeartbeats 2000000 in
theorem refSameAttrs8_any (l l2 : List Xat) (A A2 : Option Addr) (n n2 c c2 : Nat) (w : World) (S S2 : Nat → Prop) (hk : XaA w S A n l) (hk2 : XaA w S2 A2 n2 l2) (hc : n ≤ c ∧ c ≤ 9223372036854775807) (hc2 : n2 ≤ c2 ∧ c2 ≤ 9223372036854775807) :
    Calls Try.prog 21 #[.slice A n c, .slice A2 n2 c2] w fun e w' => e = .returned (.bool (decide (l = l2))) ∧ ∃ m, w' = w.drewN m := by
  have hl1 := hk.len
  have hl2 := hk2.len
  have hc1 := hc.1
  have hcc := hc.2
  have hc3 := hc2.1
  have hc4 := hc2.2
  clear hc hc2
  by_cases hlen : n = n2
  · subst hlen
    have HL := Lib.hid (And.intro hl1 hl2)
    clear hl1 hl2
    go_enter Try.func21, Try.ntmps21
    go_wp2_with fail
    go_loopw [5] (fun i wr => ∃ k : Nat, k ≤ n ∧ i = .int .i64 k ∧ Hid (l.take k = l2.take k) ∧ ∃ m, wr = w.drewN m) (fun i _ => n - (intOf i).toNat)
    case atStart => exact ⟨0, Nat.zero_le _, rfl, Lib.hid (by simp), 0, rfl⟩
    case round =>
      obtain ⟨k, hkl, rfl, hsofar, md, rfl⟩ := hrel
      by_cases hlt : k < n
      · obtain ⟨a, b, off, hg, rfl, -, hbs, g1, g2, f0, f1⟩ := xa_at hk hlt
        obtain ⟨a2, b2, off2, hg2, rfl, -, hbs2, g12, g22, f02, f12⟩ := xa_at hk2 hlt
        have hlt' : decide (k < n) = true := by simpa using hlt
        have hki : (k : Int) < (n : Int) := by omega
        cases e1 : (a.nm == a2.nm) with
        | true =>
          cases e2 : (a.vl == a2.vl) with
          | true =>
            have e3 : a = a2 := by
              obtain ⟨x, y⟩ := a
              obtain ⟨x2, y2⟩ := a2
              simp at e1 e2
              rw [e1, e2]
            have HN := Lib.hid (take_snoc_eq hg.out hg2.out hsofar.out e3)
            clear e3
            go_wp2_with fail
            go_quiet (fail)
            go_wp2_with fail
            go_roundw
            case rel => exact ⟨k + 1, by omega, by go_num, HN, md + nq, by simp⟩
            case measure => simp [intOf]; omega
          | false =>
            have HN : Hid (decide (l = l2) = false) := Lib.hid (by simpa using ne_of_at hg.out hg2.out (fun e => by subst e; simp at e2))
            go_wp2_with fail
            go_quiet (fail)
            go_wp2_with fail
            go_ret
            exact ⟨by rw [HN.out]; rfl, md + nq, by simp⟩
        | false =>
          have HN : Hid (decide (l = l2) = false) := Lib.hid (by simpa using ne_of_at hg.out hg2.out (fun e => by subst e; simp at e1))
          go_wp2_with fail
          go_quiet (fail)
          go_wp2_with fail
          go_ret
          exact ⟨by rw [HN.out]; rfl, md + nq, by simp⟩
      · obtain rfl : k = n := by omega
        have hlt' : decide (k < k) = false := by simp
        have HN : Hid (decide (l = l2) = true) := Lib.hid (by
          have := hsofar.out
          rw [List.take_of_length_le (by have := HL.out; omega), List.take_of_length_le (by have := HL.out; omega)] at this
          simpa using this)
        clear hsofar
        go_wp2_with fail
        go_ret
        exact ⟨by rw [HN.out]; rfl, md, rfl⟩
  · have HN : Hid (decide (l = l2) = false) := Lib.hid (by
      simp
      rintro rfl
      omega)
    have hb : ((n : Int) != (n2 : Int)) = true := by simp; omega
    have hb2 : (n != n2) = true := by simpa using hlen
    clear hl1 hl2
    go_enter Try.func21, Try.ntmps21
    go_wp2_with fail
    go_ret
    exact ⟨by rw [HN.out]; rfl, 0, rfl⟩
theorem bel_of_drew {w w' : World} (h : ∃ m, w' = w.drewN m) : Below w.heap.size w w' := by
  obtain ⟨m, rfl⟩ := h
  exact Nst.below_drewN (Below.refl _ _) m
theorem quiet_drew {P : Program} {f : FuncId} {args : Array Value} {w : World} {n : Nat} {v : Value}
    (h : Calls P f args (w.drewN n) fun e w' => e = .returned v ∧ ∃ m, w' = (w.drewN n).drewN m) : Calls P f args (w.drewN n) fun e w'' => e = .returned v ∧ ∃ m, w'' = w.drewN m :=
  h.mono fun _ _ ⟨he, m, hm⟩ => ⟨he, n + m, by rw [hm]; simp⟩
theorem xtk_eq (t u : Xtk) : decide (t = u) = ((t.kd == u.kd) && (t.nm == u.nm) && (t.tx == u.tx) && decide (t.ats = u.ats)) := by
  obtain ⟨k, n, a, x⟩ := t
  obtain ⟨k2, n2, a2, x2⟩ := u
  rw [Bool.eq_iff_iff]
  simp
  constructor
  · rintro ⟨h1, h2, h3, h4⟩; exact ⟨⟨⟨h1, h2⟩, h4⟩, h3⟩
  · rintro ⟨⟨⟨h1, h2⟩, h4⟩, h3⟩; exact ⟨h1, h2, h3, h4⟩
set_option maxHeartbeats 2000000 in
theorem same8_any (t u : Xtk) (B B2 : Option Addr) (d d2 : Nat) (w : World) (S S2 : Nat → Prop) (hk : XaA w S B t.ats.length t.ats) (hk2 : XaA w S2 B2 u.ats.length u.ats) (hd : t.ats.length ≤ d ∧ d ≤ 9223372036854775807) (hd2 : u.ats.length ≤ d2 ∧ d2 ≤ 9223372036854775807) :
    Calls Try.prog 30 #[.agg (xtV t B t.ats.length d), .agg (xtV u B2 u.ats.length d2)] w fun e w' => e = .returned (.bool (decide (t = u))) ∧ Below w.heap.size w w' := by
  have B1 := bel_alloc (Below.refl w.heap.size w) (.cells (xtV t B t.ats.length d) 36)
  have B2' := bel_alloc B1 (.cells (xtV u B2 u.ats.length d2) 36)
  have HB := Lib.hid B2'
  have HC := Lib.hid (equal8_any t.ats u.ats B B2 _ _ d d2 _ S S2 (hk.bel xaP B2') (hk2.bel xaP B2') hd hd2)
  have HE := Lib.hid (xtk_eq t u)
  clear hk hk2 B1 B2' hd hd2
  generalize decide (t.ats = u.ats) = q3 at *
  simp only [xtV] at HB HC ⊢
  cases e0 : (t.kd == u.kd) with
  | false =>
    rw [e0] at HE
    go_enter Try.func30, Try.ntmps30
    go_wp2_with fail
    go_ret
    exact ⟨by rw [HE.out]; rfl, HB.out⟩
  | true =>
    cases e1 : (t.nm == u.nm) with
    | false =>
      rw [e0, e1] at HE
      go_enter Try.func30, Try.ntmps30
      go_wp2_with fail
      go_ret
      exact ⟨by rw [HE.out]; rfl, HB.out⟩
    | true =>
      cases e2 : (t.tx == u.tx) with
      | false =>
        rw [e0, e1, e2] at HE
        go_enter Try.func30, Try.ntmps30
        go_wp2_with fail
        go_ret
        exact ⟨by rw [HE.out]; rfl, HB.out⟩
      | true =>
        rw [e0, e1, e2] at HE
        go_enter Try.func30, Try.ntmps30
        go_wp2_with fail
        (with_reducible refine (HC.out).mono ?_)
        rintro e w2 ⟨rfl, h2⟩
        go_wp2_with fail
        go_ret
        exact ⟨by rw [HE.out]; rfl, bel_step HB.out (bel_of_drew h2)⟩
set_option maxHeartbeats 4000000 in
theorem equalF8_any (l l2 : List Xtk) (A A2 : Option Addr) (n n2 c c2 : Nat) (w : World) (S S2 : Nat → Prop) (hk : XtA w S A n l) (hk2 : XtA w S2 A2 n2 l2) (hc : n ≤ c ∧ c ≤ 9223372036854775807) (hc2 : n2 ≤ c2 ∧ c2 ≤ 9223372036854775807) :
    Calls Try.prog 29 #[.slice A n c, .slice A2 n2 c2, .func (.func 30) #[] #[]] w fun e w' => e = .returned (.bool (decide (l = l2))) ∧ Below w.heap.size w w' := by
  have hl1 := hk.len
  have hl2 := hk2.len
  have hc1 := hc.1
  have hcc := hc.2
  have hc3 := hc2.1
  have hc4 := hc2.2
  clear hc hc2
  by_cases hlen : n = n2
  · subst hlen
    have HL := Lib.hid (And.intro hl1 hl2)
    clear hl1 hl2
    go_enter Try.func29, Try.ntmps29
    go_wp2_with fail
    go_loopw [17] (fun i wr => ∃ k : Nat, k ≤ n ∧ i = .int .i64 k ∧ Hid (l.take k = l2.take k) ∧ Below w.heap.size w wr) (fun i _ => n - (intOf i).toNat)
    case atStart => exact ⟨0, Nat.zero_le _, rfl, Lib.hid (by simp), Below.refl _ _⟩
    case round =>
      obtain ⟨k, hkl, rfl, hsofar, hb⟩ := hrel
      by_cases hlt : k < n
      · obtain ⟨t, B, d, b, off, hg, rfl, -, hbs, -, k1, k2, k3, k4, k5, HA, f0, f1, f2, f3⟩ := xt_at (hk.bel xtP hb) hlt
        obtain ⟨t2, B2, d2, b2, off2, hg2, rfl, -, hbs2, -, k12, k22, k32, k42, k52, HA2, f02, f12, f22, f32⟩ := xt_at (hk2.bel xtP hb) hlt
        have hlt' : decide (k < n) = true := by simpa using hlt
        have E1 := bel_alloc (bel_alloc (Below.refl wr.heap.size wr) (.cells (xtV t B t.ats.length d) 36)) (.cells (xtV t2 B2 t2.ats.length d2) 36)
        have HC := Lib.hid (same8_any t t2 B B2 d d2 _ _ _ (HA.out.bel xaP E1) (HA2.out.bel xaP E1) ⟨k4, k5⟩ ⟨k42, k52⟩)
        have E2 := Lib.hid (bel_step hb E1)
        clear E1
        cases e3 : decide (t = t2) with
        | true =>
          rw [e3] at HC
          have HN := Lib.hid (take_snoc_eq hg.out hg2.out hsofar.out (by simpa using e3))
          clear e3
          simp only [xtV] at HC E2
          go_wp2_with fail
          (with_reducible refine (HC.out).mono ?_)
          rintro e w2 ⟨rfl, h2⟩
          go_wp2_with fail
          go_roundw
          case rel => exact ⟨k + 1, by omega, by go_num, HN, bel_step E2.out h2⟩
          case measure => simp [intOf]; omega
        | false =>
          rw [e3] at HC
          have HN : Hid (decide (l = l2) = false) := Lib.hid (by simpa using ne_of_at hg.out hg2.out (by simpa using e3))
          clear e3
          simp only [xtV] at HC E2
          go_wp2_with fail
          (with_reducible refine (HC.out).mono ?_)
          rintro e w2 ⟨rfl, h2⟩
          go_wp2_with fail
          go_ret
          exact ⟨by rw [HN.out]; rfl, bel_step E2.out h2⟩
      · obtain rfl : k = n := by omega
        have hlt' : decide (k < k) = false := by simp
        have HN : Hid (decide (l = l2) = true) := Lib.hid (by
          have := hsofar.out
          rw [List.take_of_length_le (by have := HL.out; omega), List.take_of_length_le (by have := HL.out; omega)] at this
          simpa using this)
        clear hsofar
        go_wp2_with fail
        go_ret
        exact ⟨by rw [HN.out]; rfl, hb⟩
  · have HN : Hid (decide (l = l2) = false) := Lib.hid (by
      simp
      rintro rfl
      omega)
    have hb : ((n : Int) != (n2 : Int)) = true := by simp; omega
    have hb2 : (n != n2) = true := by simpa using hlen
    clear hl1 hl2
    go_enter Try.func29, Try.ntmps29
    go_wp2_with fail
    go_ret
    exact ⟨by rw [HN.out]; rfl, Below.refl _ _⟩
theorem Same8_any (l l2 : List Xtk) (A A2 : Option Addr) (n n2 c c2 : Nat) (w : World) (S S2 : Nat → Prop) (hk : XtA w S A n l) (hk2 : XtA w S2 A2 n2 l2) (hc : n ≤ c ∧ c ≤ 9223372036854775807) (hc2 : n2 ≤ c2 ∧ c2 ≤ 9223372036854775807) :
    Calls Try.prog 17 #[.slice A n c, .slice A2 n2 c2] w fun e w' => e = .returned (.bool (decide (l = l2))) ∧ Below w.heap.size w w' := by
  have HC := Lib.hid (equalF8_any l l2 A A2 n n2 c c2 w S S2 hk hk2 hc hc2)
  clear hk hk2 hc hc2
  generalize decide (l = l2) = b at *
  go_enter Try.func17, Try.ntmps17
  go_wp2_with fail
  (with_reducible refine (HC.out).mono ?_)
  rintro e w2 ⟨rfl, h2⟩
  go_wp2_with fail
  go_ret
  exact ⟨rfl, h2⟩
set_option maxHeartbeats 4000000 in
theorem refSame8_any (l l2 : List Xtk) (A A2 : Option Addr) (n n2 c c2 : Nat) (w : World) (S S2 : Nat → Prop) (hk : XtA w S A n l) (hk2 : XtA w S2 A2 n2 l2) (hc : n ≤ c ∧ c ≤ 9223372036854775807) (hc2 : n2 ≤ c2 ∧ c2 ≤ 9223372036854775807) :
    Calls Try.prog 10 #[.slice A n c, .slice A2 n2 c2] w fun e w' => e = .returned (.bool (decide (l = l2))) ∧ Below w.heap.size w w' := by
  have hl1 := hk.len
  have hl2 := hk2.len
  have hc1 := hc.1
  have hcc := hc.2
  have hc3 := hc2.1
  have hc4 := hc2.2
  clear hc hc2
  by_cases hlen : n = n2
  · subst hlen
    have HL := Lib.hid (And.intro hl1 hl2)
    clear hl1 hl2
    go_enter Try.func10, Try.ntmps10
    go_wp2_with fail
    go_loopw [5] (fun i wr => ∃ k : Nat, k ≤ n ∧ i = .int .i64 k ∧ Hid (l.take k = l2.take k) ∧ Below w.heap.size w wr) (fun i _ => n - (intOf i).toNat)
    case atStart => exact ⟨0, Nat.zero_le _, rfl, Lib.hid (by simp), Below.refl _ _⟩
    case round =>
      obtain ⟨k, hkl, rfl, hsofar, hb⟩ := hrel
      by_cases hlt : k < n
      · obtain ⟨t, B, d, b, off, hg, rfl, -, hbs, -, k1, k2, k3, k4, k5, HA, f0, f1, f2, f3⟩ := xt_at (hk.bel xtP hb) hlt
        obtain ⟨t2, B2, d2, b2, off2, hg2, rfl, -, hbs2, -, k12, k22, k32, k42, k52, HA2, f02, f12, f22, f32⟩ := xt_at (hk2.bel xtP hb) hlt
        have hlt' : decide (k < n) = true := by simpa using hlt
        have hki : (k : Int) < (n : Int) := by omega
        have HC := Lib.hid (fun m => refSameAttrs8_any t.ats t2.ats B B2 _ _ d d2 (wr.drewN m) _ _ (HA.out.bel xaP (Nst.below_drewN (Below.refl _ _) m)) (HA2.out.bel xaP (Nst.below_drewN (Below.refl _ _) m)) ⟨k4, k5⟩ ⟨k42, k52⟩)
        cases e0 : (t.kd == t2.kd) with
        | false =>
          have n0 : (t.kd != t2.kd) = true := by simp only [bne, e0]; rfl
          have HN : Hid (decide (l = l2) = false) := Lib.hid (by
            have e9 : decide (t = t2) = false := by rw [xtk_eq, e0]; simp
            simpa using ne_of_at hg.out hg2.out (by simpa using e9))
          go_wp2_with fail
          go_quiet (fail)
          go_wp2_with fail
          go_ret
          exact ⟨by rw [HN.out]; rfl, Nst.below_drewN hb nq⟩
        | true =>
          have n0 : (t.kd != t2.kd) = false := by simp only [bne, e0]; rfl
          cases e1 : (t.nm == t2.nm) with
          | false =>
            have n1 : (t.nm != t2.nm) = true := by simp only [bne, e1]; rfl
            have HN : Hid (decide (l = l2) = false) := Lib.hid (by
              have e9 : decide (t = t2) = false := by rw [xtk_eq, e0, e1]; simp
              simpa using ne_of_at hg.out hg2.out (by simpa using e9))
            go_wp2_with fail
            go_quiet (fail)
            go_wp2_with fail
            go_ret
            exact ⟨by rw [HN.out]; rfl, Nst.below_drewN hb nq⟩
          | true =>
            have n1 : (t.nm != t2.nm) = false := by simp only [bne, e1]; rfl
            cases e2 : (t.tx == t2.tx) with
            | false =>
              have n2 : (t.tx != t2.tx) = true := by simp only [bne, e2]; rfl
              have HN : Hid (decide (l = l2) = false) := Lib.hid (by
                have e9 : decide (t = t2) = false := by rw [xtk_eq, e0, e1, e2]; simp
                simpa using ne_of_at hg.out hg2.out (by simpa using e9))
              go_wp2_with fail
              go_quiet (fail)
              go_wp2_with fail
              go_ret
              exact ⟨by rw [HN.out]; rfl, Nst.below_drewN hb nq⟩
            | true =>
              have n2 : (t.tx != t2.tx) = false := by simp only [bne, e2]; rfl
              cases e3 : decide (t.ats = t2.ats) with
              | false =>
                have HN : Hid (decide (l = l2) = false) := Lib.hid (by
                  have e9 : decide (t = t2) = false := by rw [xtk_eq, e0, e1, e2, e3]; simp
                  simpa using ne_of_at hg.out hg2.out (by simpa using e9))
                rw [e3] at HC
                clear e3
                go_wp2_with fail
                go_quiet ((go_at_call 21; with_reducible exact quiet_drew (HC.out _)))
                go_wp2_with fail
                go_ret
                exact ⟨by rw [HN.out]; rfl, Nst.below_drewN hb nq⟩
              | true =>
                have e9 : t = t2 := by
                  have e8 : decide (t = t2) = true := by rw [xtk_eq, e0, e1, e2, e3]; rfl
                  simpa using e8
                have HN := Lib.hid (take_snoc_eq hg.out hg2.out hsofar.out e9)
                clear e9
                rw [e3] at HC
                clear e3
                go_wp2_with fail
                go_quiet ((go_at_call 21; with_reducible exact quiet_drew (HC.out _)))
                go_wp2_with fail
                go_roundw
                case rel => exact ⟨k + 1, by omega, by go_num, HN, Nst.below_drewN hb nq⟩
                case measure => simp [intOf]; omega
      · obtain rfl : k = n := by omega
        have hlt' : decide (k < k) = false := by simp
        have HN : Hid (decide (l = l2) = true) := Lib.hid (by
          have := hsofar.out
          rw [List.take_of_length_le (by have := HL.out; omega), List.take_of_length_le (by have := HL.out; omega)] at this
          simpa using this)
        clear hsofar
        go_wp2_with fail
        go_ret
        exact ⟨by rw [HN.out]; rfl, hb⟩
  · have HN : Hid (decide (l = l2) = false) := Lib.hid (by
      simp
      rintro rfl
      omega)
    have hb : ((n : Int) != (n2 : Int)) = true := by simp; omega
    have hb2 : (n != n2) = true := by simpa using hlen
    clear hl1 hl2
    go_enter Try.func10, Try.ntmps10
    go_wp2_with fail
    go_ret
    exact ⟨by rw [HN.out]; rfl, Below.refl _ _⟩
end Go.Proofs.Ytnagckdaleafdaa
