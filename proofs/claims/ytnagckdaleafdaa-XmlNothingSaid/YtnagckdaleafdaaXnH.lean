/-
  XmlNothing: the walk.
-/
import Derived.Test.YtnagckdaleafdaaXnG
import Derived.Laws.OwnMore
namespace Go.Proofs.Ytnagckdaleafdaa
open Go.ChangeShapes Go.WideShapes Go.ChangeAt Go.Deep
open Go.RowKit Go.Nst
set_option maxRecDepth 100000
set_option linter.unusedVariables false
set_option linter.unusedSimpArgs false

theorem pz_tx {out x : List Xtk} {s : List UInt8} (h : Pz out s x) : ∀ K, s.length ≤ 100000 → txB K out → txB (K + 1000000 * s.length) x := by
  induction h with
  | nil out => intro K _ h; simpa using h
  | @step out out' c l b ts h h2 ih =>
    intro K hl hK
    have h1 := partD_tx hl h
    have h3 := partD_len h
    have h4 := ih (K + 1000000 * ts.length) (by omega) (txB.adds hK h1.2)
    intro u hu
    have := h4 u hu
    omega
theorem nrm_left : ∀ (l m : List Xtk), NrmX (l ++ m) → NrmX l
  | [], _, _ => trivial
  | t :: l, m, h => ⟨h.1, fun u hu => h.2.1 u (by cases l with | nil => cases hu | cons a b => exact hu), nrm_left l m h.2.2⟩
theorem all_step {xs ys : List Xtk} (hy : NrmX ys) {k : Nat} {t : Xtk} (hg : ys[k]? = some t) : (t.kd = 3 → t.tx ≠ []) ∧ (0 < k → addT ((ys.take k).foldl addT xs) t = (ys.take k).foldl addT xs ++ [t]) := by
  have h1 : NrmX (ys.take (k + 1)) := nrm_left _ (ys.drop (k + 1)) (by rw [List.take_append_drop]; exact hy)
  rw [List.take_add_one, hg] at h1
  have h2 := (nrm_snoc _ _).1 h1
  refine ⟨h2.2.1, fun hk => ?_⟩
  obtain ⟨j, rfl⟩ : ∃ j, k = j + 1 := ⟨k - 1, by omega⟩
  have hlt : j + 1 < ys.length := (List.getElem?_eq_some_iff.1 hg).1
  have hj : ys[j]? = some (ys[j]'(by omega)) := List.getElem?_eq_getElem (by omega)
  generalize ys[j]'(by omega) = u at hj
  by_cases h3 : t.kd = 3
  · refine addT_app (.inr ⟨h2.2.1 h3, fun v hv => ?_⟩)
    have hu3 : u.kd ≠ 3 := fun e => h2.2.2 u (by rw [List.take_add_one, hj]; simp) ⟨e, h3⟩
    rw [List.take_add_one, hj, List.foldl_append] at hv
    simp only [Option.toList_some, List.foldl_cons, List.foldl_nil] at hv
    rw [addT_app (.inl hu3), List.getLast?_concat] at hv
    injection hv with hv
    exact hv ▸ hu3
  · exact addT_app (.inl h3)
theorem rwo_lit0 {α : Type} {e : TypeId} {sz : Nat} {P : World → (Nat → Prop) → Array Value → α → Prop} {w : World} {base : Nat} {S : Nat → Prop} (hb : base ≤ w.heap.size) : RwO e sz P (w.alloc (.cells #[] e)) base S (some ⟨w.heap.size, 0, none⟩) 0 0 [] :=
  ⟨[], World.ownsRow_lit w #[] 0 hb (by decide) (by simp), rfl, fun _ => #[], by intro i j u h; omega, by simp⟩
theorem fold_next {xs ys : List Xtk} {k : Nat} {t : Xtk} (hg : ys[k]? = some t) : (ys.take (k + 1)).foldl addT xs = addT ((ys.take k).foldl addT xs) t := by
  rw [List.take_add_one, hg, List.foldl_append]
  rfl
/-- what holds of the row of all tokens -/
def AllF (wB wr : World) (S : Nat → Prop) (A : Option Addr) (n c : Nat) (L : List Xtk) : Prop := XtO wr wB.heap.size S A n c L ∧ Below wB.heap.size wB wr
theorem AllF.bel {wB wr w1 : World} {S : Nat → Prop} {A : Option Addr} {n c : Nat} {L : List Xtk} (h : AllF wB wr S A n c L) (hb : Below wr.heap.size wr w1) : AllF wB w1 S A n c L := ⟨h.1.bel xtP hb, bel_step h.2 hb⟩
theorem drop_mem {l : List UInt8} {k : Nat} {c : UInt8} (h : l[k]? = some c) {x : UInt8} (hx : x ∉ l.take k) (hc : c ≠ x) : x ∉ l.take (k + 1) := by
  rw [List.take_add_one, h]
  intro hh
  rcases List.mem_append.1 hh with hh | hh
  · exact hx hh
  · have : x = c := by simpa using hh
    exact hc this.symm
set_option maxHeartbeats 16000000 in
theorem xmlNothing_walk (s t i : ByteArray) (w : World) (hs : s.size ≤ 9223372036854775807) (ht : t.size ≤ 9223372036854775807) (hi : i.size ≤ 9223372036854775807) (hM : ML w) : Calls Try.prog 6 #[.string s, .string t, .string i] w (RetTrue w) := by
  obtain ⟨a, rfl⟩ : ∃ l, s = ⟨l.toArray⟩ := ⟨bl s, (bl_mk s).symm⟩
  obtain ⟨b, rfl⟩ : ∃ l, t = ⟨l.toArray⟩ := ⟨bl t, (bl_mk t).symm⟩
  obtain ⟨x, rfl⟩ : ∃ l, i = ⟨l.toArray⟩ := ⟨bl i, (bl_mk i).symm⟩
  rw [size_of] at hs ht hi
  by_cases h1 : 1000 < a.length
  · have d1 : decide (1000 < (a.length : Int)) = true := by simp; omega
    go_enter Try.func6, Try.ntmps6
    go_wp2_with fail
    (with_reducible refine (lives08_any w hM).mono ?_)
    rintro e w1 ⟨rfl, hb⟩
    go_wp2_with fail
    go_ret
    exact ⟨rfl, hb⟩
  have d1 : decide (1000 < (a.length : Int)) = false := by simp; omega
  by_cases h2 : 1000 < b.length
  · have d2 : decide (1000 < (b.length : Int)) = true := by simp; omega
    go_enter Try.func6, Try.ntmps6
    go_wp2_with fail
    (with_reducible refine (lives08_any w hM).mono ?_)
    rintro e w1 ⟨rfl, hb⟩
    go_wp2_with fail
    go_ret
    exact ⟨rfl, hb⟩
  have d2 : decide (1000 < (b.length : Int)) = false := by simp; omega
  by_cases h3 : 300 < x.length
  · have d3 : decide (300 < (x.length : Int)) = true := by simp; omega
    go_enter Try.func6, Try.ntmps6
    go_wp2_with fail
    (with_reducible refine (lives08_any w hM).mono ?_)
    rintro e w1 ⟨rfl, hb⟩
    go_wp2_with fail
    go_ret
    exact ⟨rfl, hb⟩
  have d3 : decide (300 < (x.length : Int)) = false := by simp; omega
  have HM := Lib.hid hM
  clear hM
  go_enter Try.func6, Try.ntmps6
  go_wp2_with fail
  go_loopw [7] (fun v wr => ∃ (k : Nat), k ≤ x.length ∧ v = .int .i64 k ∧ Hid ((45 : UInt8) ∉ x.take k ∧ (63 : UInt8) ∉ x.take k) ∧ wr = w) (fun v _ => x.length - (intOf v).toNat)
  case atStart => exact ⟨0, Nat.zero_le _, rfl, Lib.hid (by simp), rfl⟩
  case round =>
    obtain ⟨k, hkx, rfl, HN, rfl⟩ := hrel
    by_cases hlt : k < x.length
    · have hlt' : decide (k < x.length) = true := by simpa using hlt
      have hki : (k : Int) < (x.length : Int) := by omega
      have hb9 : k < (⟨x.toArray⟩ : ByteArray).size := by rw [size_of]; exact hlt
      obtain ⟨ch, hch⟩ : ∃ ch, x[k]? = some ch := ⟨_, List.getElem?_eq_getElem hlt⟩
      have hch2 : x[k] = ch := by
        have := List.getElem?_eq_some_iff.1 hch
        exact this.2
      have HCH := Lib.hid hch
      clear hch
      by_cases h45 : ch = 45
      · subst h45
        have c1 : ((((⟨x.toArray⟩ : ByteArray)[k]'hb9).toNat : Int) == 45) = true := by
          show ((x[k].toNat : Int) == 45) = true
          rw [hch2]; rfl
        go_wp2_with fail
        (with_reducible refine (lives08_any _ HM.out).mono ?_)
        rintro e w1 ⟨rfl, hb⟩
        go_wp2_with fail
        go_ret
        exact ⟨rfl, hb⟩
      by_cases h63 : ch = 63
      · subst h63
        have c1 : ((((⟨x.toArray⟩ : ByteArray)[k]'hb9).toNat : Int) == 45) = false := by
          show ((x[k].toNat : Int) == 45) = false
          rw [hch2]; rfl
        have c2 : ((((⟨x.toArray⟩ : ByteArray)[k]'hb9).toNat : Int) == 63) = true := by
          show ((x[k].toNat : Int) == 63) = true
          rw [hch2]; rfl
        go_wp2_with fail
        (with_reducible refine (lives08_any _ HM.out).mono ?_)
        rintro e w1 ⟨rfl, hb⟩
        go_wp2_with fail
        go_ret
        exact ⟨rfl, hb⟩
      have n1 : ¬ x[k].toNat = 45 := by
        rw [hch2]
        intro hh
        exact h45 (UInt8.toNat_inj.1 (by rw [hh]; rfl))
      have n2 : ¬ x[k].toNat = 63 := by
        rw [hch2]
        intro hh
        exact h63 (UInt8.toNat_inj.1 (by rw [hh]; rfl))
      have c1 : ((((⟨x.toArray⟩ : ByteArray)[k]'hb9).toNat : Int) == 45) = false := by
        show ((x[k].toNat : Int) == 45) = false
        simp only [beq_eq_false_iff_ne]
        omega
      have c2 : ((((⟨x.toArray⟩ : ByteArray)[k]'hb9).toNat : Int) == 63) = false := by
        show ((x[k].toNat : Int) == 63) = false
        simp only [beq_eq_false_iff_ne]
        omega
      have HN2 := Lib.hid (And.intro (drop_mem HCH.out HN.out.1 h45) (drop_mem HCH.out HN.out.2 h63))
      clear HN hch2
      go_wp2_with fail
      go_roundw
      case rel => exact ⟨k + 1, by omega, by go_num, HN2, by first | trivial | rfl⟩
      case measure => simp [intOf]; omega
    · obtain rfl : k = x.length := by omega
      have hlt' : decide (x.length < x.length) = false := by simp
      have hnn := HN.out
      rw [List.take_length] at hnn
      have HNN := Lib.hid hnn
      clear hnn HN
      have H1 := Lib.hid (fun W (h : ML W) => Tokens8_any a W h (by omega))
      have H2 := Lib.hid (fun W (h : ML W) => Tokens8_any b W h (by omega))
      have H3 := Lib.hid (fun W (h : ML W) => Tokens8_any (a ++ [60, 33, 45, 45] ++ x ++ [45, 45, 62] ++ b) W h (by simp; omega))
      have H4 := Lib.hid (fun W (h : ML W) => Tokens8_any (a ++ [60, 63] ++ x ++ [63, 62] ++ b) W h (by simp; omega))
      have HL : Hid ((tokD a).2.2 = 0 → (tokD b).2.2 = 0 → (tokD (a ++ [60, 33, 45, 45] ++ x ++ [45, 45, 62] ++ b)).1 = (tokD b).1.foldl addT (tokD a).1 ∧ (tokD (a ++ [60, 33, 45, 45] ++ x ++ [45, 45, 62] ++ b)).2.2 = 0 ∧ (tokD (a ++ [60, 63] ++ x ++ [63, 62] ++ b)).1 = (tokD b).1.foldl addT (tokD a).1 ∧ (tokD (a ++ [60, 63] ++ x ++ [63, 62] ++ b)).2.2 = 0) := Lib.hid (fun ha hb => by
        have e1 := nothing_law ([60, 33, 45, 45] ++ x ++ [45, 45, 62]) (.inl rfl) HNN.out ha hb ⟨by omega, by omega, by omega⟩
        have e2 := nothing_law ([60, 63] ++ x ++ [63, 62]) (.inr rfl) HNN.out ha hb ⟨by omega, by omega, by omega⟩
        simp only [← List.append_assoc] at e1 e2
        rw [e1, e2]
        exact ⟨rfl, rfl, rfl, rfl⟩)
      have HB : Hid ((tokD a).2.2 = 0 → (tokD b).2.2 = 0 → (tokD a).1.length ≤ 1000 ∧ (tokD b).1.length ≤ 1000 ∧ txB 1000000000 (tokD a).1 ∧ txB 1000000000 (tokD b).1 ∧ NrmX (tokD b).1) := Lib.hid (fun ha hb => by
        have e1 := tokD_ok ha
        have e2 := tokD_ok hb
        have l1 := e1.1.len
        have l2 := e2.1.len
        have t1 := pz_tx e1.1 0 (by omega) (fun u hu => by cases hu)
        have t2 := pz_tx e2.1 0 (by omega) (fun u hu => by cases hu)
        simp only [List.length_nil] at l1 l2
        exact ⟨by omega, by omega, fun u hu => by have := t1 u hu; omega, fun u hu => by have := t2 u hu; omega, e2.2.2⟩)
      generalize tokD (a ++ [60, 33, 45, 45] ++ x ++ [45, 45, 62] ++ b) = r3 at *
      generalize tokD (a ++ [60, 63] ++ x ++ [63, 62] ++ b) = r4 at *
      generalize tokD a = r1 at *
      generalize tokD b = r2 at *
      obtain ⟨t1, p1, e1⟩ := r1
      obtain ⟨t2, p2, e2⟩ := r2
      obtain ⟨t3, p3, e3⟩ := r3
      obtain ⟨t4, p4, e4⟩ := r4
      simp only at HL HB
      rw [← ba_cat, ← ba_cat, ← ba_cat, ← ba_cat] at H3 H4
      have q1 : ¬ 9223372036854775807 < a.length + 4 := by omega
      have q2 : ¬ 9223372036854775807 < a.length + 4 + x.length := by omega
      have q3 : ¬ 9223372036854775807 < a.length + 4 + x.length + 3 := by omega
      have q4 : ¬ 9223372036854775807 < a.length + 4 + x.length + 3 + b.length := by omega
      have q5 : ¬ 9223372036854775807 < a.length + 2 := by omega
      have q6 : ¬ 9223372036854775807 < a.length + 2 + x.length := by omega
      have q7 : ¬ 9223372036854775807 < a.length + 2 + x.length + 2 := by omega
      have q8 : ¬ 9223372036854775807 < a.length + 2 + x.length + 2 + b.length := by omega
      clear HNN
      go_wp2_with fail
      (with_reducible refine (H1.out _ HM.out).mono ?_)
      rintro e w1 ⟨A1, n1, c1, he, HA, hn1, hc1, B1⟩
      simp only at he HA
      subst he
      have HX1 := Lib.hid HA
      have HN1 := Lib.hid HA.len
      clear HA H1
      go_wp2_with fail
      (with_reducible refine (H2.out _ (HM.out.below B1)).mono ?_)
      rintro e w2 ⟨A2, n2, c2, he, HA, hn2, hc2, hb⟩
      simp only at he HA
      subst he
      have B2 := bel_step B1 hb
      have HX2 := Lib.hid (HX1.out.bel xtP hb)
      have HY2 := Lib.hid HA
      have HN2 := Lib.hid HA.len
      clear HA H2 hb HX1 B1
      go_wp2_with fail
      (with_reducible refine (H3.out _ (HM.out.below B2)).mono ?_)
      rintro e w3 ⟨A3, n3, c3, he, HA, hn3, hc3, hb⟩
      simp only at he HA
      subst he
      have B3 := bel_step B2 hb
      have HX3 := Lib.hid (HX2.out.bel xtP hb)
      have HY3 := Lib.hid (HY2.out.bel xtP hb)
      have HZ3 := Lib.hid HA
      clear HA H3 hb HX2 HY2 B2
      go_wp2_with fail
      (with_reducible refine (H4.out _ (HM.out.below B3)).mono ?_)
      rintro e w4 ⟨A4, n4, c4, he, HA, hn4, hc4, hb⟩
      simp only at he HA
      subst he
      have B4 := bel_step B3 hb
      have HX4 := Lib.hid (HX3.out.bel xtP hb)
      have HY4 := Lib.hid (HY3.out.bel xtP hb)
      have HZ4 := Lib.hid (HZ3.out.bel xtP hb)
      have HW4 := Lib.hid HA
      clear HA H4 hb HX3 HY3 HZ3 B3
      go_wp2_with fail
      (with_reducible refine (lives08_any _ (HM.out.below B4)).mono ?_)
      rintro e w5 ⟨rfl, hb⟩
      have B5 := bel_step B4 hb
      have HX5 := Lib.hid (HX4.out.bel xtP hb)
      have HY5 := Lib.hid (HY4.out.bel xtP hb)
      have HZ5 := Lib.hid (HZ4.out.bel xtP hb)
      have HW5 := Lib.hid (HW4.out.bel xtP hb)
      clear hb HX4 HY4 HZ4 HW4 B4 q1 q2 q3 q4 q5 q6 q7 q8
      by_cases ha0 : e1 = 0
      · subst ha0
        by_cases hb0 : e2 = 0
        · subst hb0
          obtain ⟨r1, r2, r3, r4⟩ := HL.out rfl rfl
          try simp only at r1 r2 r3 r4
          obtain ⟨b1, b2, b3, b4, b5⟩ := HB.out rfl rfl
          subst r1 r2 r3 r4
          have HB3 := Lib.hid b3
          have HB4 := Lib.hid b4
          have HB5 := Lib.hid b5
          have hn1' := HN1.out
          have hn2' := HN2.out
          clear HL HB b3 b4 b5
          have HX := Lib.hid ((HX5.out.wide xtP (S' := fun b => b < w5.heap.size) (fun b _ h => h)))
          have HY := Lib.hid ((HY5.out.wide xtP (S' := fun b => b < w5.heap.size) (fun b _ h => h)))
          have hbe := bel_alloc (Below.refl w5.heap.size w5) (.cells #[] 36)
          have ho := rwo_lit0 (e := 36) (sz := 4) (P := XtP) (w := w5) (S := fun b => b < w5.heap.size) (Nat.le_refl _)
          have hr : XtR (w5.alloc (.cells #[] 36)) (fun b => b < w5.heap.size ∧ some b ≠ (Value.slice (some ⟨w5.heap.size, 0, none⟩) 0 0).ownBlock) A1 n1 t1 := ((HX.out.bel xtP hbe).r xtP fun b hb _ => ⟨hb, fun e => by simp [Value.ownBlock] at e; omega⟩)
          have hba : w5.heap.size ≤ (w5.alloc (.cells #[] 36)).heap.size := by simp
          have HBE := Lib.hid hbe
          clear hbe HX HX5 HY5
          go_wp2_with (at_builtin; go_loud (refine wpList_appY xtP iXts rfl rfl rfl ho rfl hr (by omega) (by omega) hba ?_; intro A6 c6 w6 ho6 hb6 hgr6 hk6))
          have HB6 := Lib.hid (HBE.out.trans hb6)
          have HO6 := Lib.hid ho6
          clear ho hr hba HBE hb6 ho6 hgr6 hk6
          obtain ⟨wo, hwo⟩ : ∃ wo : World, wo = w5 := ⟨_, rfl⟩
          subst hwo
          go_wp2_with fail
          go_loopw [20, 21] (fun v u wr => ∃ (k : Nat) (A' : Option Addr) (n c : Nat), k ≤ n2 ∧ u = .int .i64 k ∧ v = .slice A' n c ∧ n ≤ n1 + k ∧ n1 ≤ n ∧ Hid (AllF wo wr (fun b => b < wo.heap.size) A' n c ((t2.take k).foldl addT t1))) (fun _ u _ => n2 - (intOf u).toNat)
          case atStart => exact ⟨0, A6, n1, c6, Nat.zero_le _, rfl, by first | rfl | rw [Nat.zero_add], by omega, by omega, Lib.hid ⟨by have := HO6.out; rw [Nat.zero_add, List.nil_append] at this; exact this, HB6.out⟩⟩
          case round =>
            obtain ⟨k, A', n, c, hkn, rfl, rfl, hnu, hnl, HA⟩ := hrel
            have hcp := HA.out.1.cap
            have hcp1 := hcp.1
            have hcp2 := hcp.2
            clear hcp
            by_cases hlt : k < n2
            · have hlt' : decide (k < n2) = true := by simpa using hlt
              have hki : (k : Int) < (n2 : Int) := by omega
              have HYr := HY.out.bel xtP HA.out.2
              obtain ⟨t, B, d, b, off, HG, rfl, hS, hbs, HPT, k1, k2, k3, k4, k5, HAT, f0, f1, f2, f3⟩ := xt_at HYr hlt
              obtain ⟨q1, q2⟩ := all_step (xs := t1) HB5.out HG.out
              have htx := HB4.out t (List.mem_of_getElem? HG.out)
              obtain ⟨kd, nm, ats, tx⟩ := t
              simp only at k1 k2 k3 k4 k5 f0 f1 f2 f3 HAT htx HPT q1
              have hlast : ∀ m, n = m + 1 → ∃ (x : Xtk) (g : Nat), ((t2.take k).foldl addT t1)[m]? = some x ∧ A' = some ⟨g, 0, none⟩ ∧ wo.heap.size ≤ g ∧ g < wr.heap.size ∧ (∀ j, wr.frozen? ⟨g, j, none⟩ = false) ∧ wr.cell? ⟨g, m * 4, none⟩ = some (.int .i64 x.kd) ∧ wr.cell? ⟨g, m * 4 + 3, none⟩ = some (.string ⟨x.tx.toArray⟩) := by
                intro m hm
                obtain ⟨x, v, g, h1, h2, h3, h4, h5, h6, h7⟩ := HA.out.1.get (show m < n by omega)
                obtain ⟨B', d', rfl, _⟩ := h6
                exact ⟨x, g, h1, h2, h3, h4, h5, h7 0 _ rfl, h7 3 _ rfl⟩
              have HLA := Lib.hid hlast
              have HQ1 := Lib.hid q1
              have HQ2 := Lib.hid q2
              clear hlast q1 q2 HYr
              by_cases hk0 : k = 0
              · subst hk0
                simp only [Nat.zero_mul, Nat.add_zero] at f0 f1 f2 f3
                cases n with
                | zero =>
                  have HAP : Hid (addT ((t2.take 0).foldl addT t1) ⟨kd, nm, ats, tx⟩ = (t2.take 0).foldl addT t1 ++ [⟨kd, nm, ats, tx⟩]) := Lib.hid (by
                    have hl := HA.out.1.len
                    rw [List.eq_nil_of_length_eq_zero hl]
                    by_cases h3 : kd = 3
                    · exact addT_app (.inr ⟨HQ1.out h3, by simp⟩)
                    · exact addT_app (.inl h3))
                  clear HLA HQ1 HQ2
                  have hbw := bel_alloc (Below.refl wr.heap.size wr) (.cells (xtV ⟨kd, nm, ats, tx⟩ B ats.length d) 36)
                  have ho := HA.out.1.bel xtP hbw
                  have hr : XtR (wr.alloc (.cells (xtV ⟨kd, nm, ats, tx⟩ B ats.length d) 36)) (fun b => b < wo.heap.size ∧ some b ≠ (Value.slice A' 0 c).ownBlock) (some ⟨wr.heap.size, 0, none⟩) 1 [⟨kd, nm, ats, tx⟩] := by
                    refine RwR.blk1 (Blk.new wr 36 _) (xtP.bel (xtP.wide HPT.out (fun b hb _ => ⟨hb, fun e => ?_⟩)) hbw)
                    have := HA.out.1.lt b e.symm
                    omega
                  have hba : wo.heap.size ≤ (wr.alloc (.cells (xtV ⟨kd, nm, ats, tx⟩ B ats.length d) 36)).heap.size := by
                    have := HA.out.2.size
                    simp
                    omega
                  have HBW := Lib.hid (HA.out.2.trans (hbw.mono HA.out.2.size))
                  clear hbw HPT
                  simp only [xtV] at ho hr hba HBW
                  go_wp2_with (at_builtin; go_loud (refine wpList_appY xtP iXts rfl rfl rfl ho rfl hr (by omega) (by omega) hba ?_; intro A7 c7 w7 ho7 hb7 hgr7 hk7))
                  go_wp2_with fail
                  go_roundw
                  case rel => exact ⟨0 + 1, A7, 0 + 1, c7, by omega, by go_num, rfl, by omega, by omega, Lib.hid ⟨by rw [fold_next HG.out, HAP.out]; exact ho7, HBW.out.trans hb7⟩⟩
                  case measure => simp [intOf]; omega
                | succ m =>
                  obtain ⟨x, g, hx, hAg, hgb, hg, hfz, z0, z3⟩ := HLA.out m rfl
                  have HX9 := Lib.hid hx
                  clear hx HLA
                  by_cases hu3 : x.kd = 3
                  · have t1' : decide (x.kd = 3) = true := by simpa using hu3
                    by_cases h3 : kd = 3
                    · have t2' : decide (kd = 3) = true := by simpa using h3
                      have h4 : tx ≠ [] := HQ1.out h3
                      have hxl := HB3.out x (by
                        have := HX9.out
                        simp only [List.take_zero, List.foldl_nil] at this
                        exact List.mem_of_getElem? this)
                      have hf0 := hfz (m * 4 + 3)
                      have hcat : (⟨x.tx.toArray⟩ : ByteArray) ++ ⟨tx.toArray⟩ = ⟨(x.tx ++ tx).toArray⟩ := by
                        apply ByteArray.ext
                        simp
                      have hsum : ¬ 9223372036854775807 < x.tx.length + tx.length := by omega
                      have FIN : Hid (AllF wo ((wr.setCell ⟨g, m * 4 + 3, none⟩ (.string ((⟨x.tx.toArray⟩ : ByteArray) ++ ⟨tx.toArray⟩))).drew) (fun b => b < wo.heap.size) A' (m + 1) c ((t2.take 1).foldl addT t1)) := Lib.hid (by
                        have hL := HA.out.1.len
                        rw [hcat, fold_next (k := 0) HG.out, addT_set h3 h4 hL HX9.out hu3]
                        have hg1 : wr.grownBy (wr.setCell ⟨g, m * 4 + 3, none⟩ (.string ⟨(x.tx ++ tx).toArray⟩)) (some g) := only_setCell (World.grownBy.refl _ _) (.inl rfl) _
                        have hD := (Below.refl (wr.setCell ⟨g, m * 4 + 3, none⟩ (.string ⟨(x.tx ++ tx).toArray⟩)).heap.size (wr.setCell ⟨g, m * 4 + 3, none⟩ (.string ⟨(x.tx ++ tx).toArray⟩))).drew
                        have hP := HA.out.1.put xtP hAg (show m < m + 1 by omega) (show 3 < 4 by omega) (.string ⟨(x.tx ++ tx).toArray⟩) ⟨x.kd, x.nm, x.ats, x.tx ++ tx⟩ (fun w2 v y hy hP => by
                          rw [HX9.out] at hy
                          injection hy with hy
                          subst hy
                          exact xtP_set hP (by rw [List.length_append]; omega))
                        refine ⟨hP.bel xtP hD, (below_only HA.out.2 hg1 hgb HA.out.2.size).trans (hD.mono ?_)⟩
                        exact Nat.le_trans HA.out.2.size hg1.size)
                      clear hcat HQ1 HQ2 HX9 HA HPT hxl
                      subst hAg
                      subst h3
                      go_wp2_with (fail)
                      go_region
                      go_wp2_with fail
                      go_roundw
                      case rel => exact ⟨1, _, m + 1, c, by omega, by go_num, rfl, by omega, by omega, FIN⟩
                      case measure => simp [intOf]; omega
                    · have t2' : decide (kd = 3) = false := by simpa using h3
                      have HAP : Hid (addT ((t2.take 0).foldl addT t1) ⟨kd, nm, ats, tx⟩ = (t2.take 0).foldl addT t1 ++ [⟨kd, nm, ats, tx⟩]) := Lib.hid (addT_app (.inl h3))
                      clear HQ1 HQ2 HX9
                      subst hAg
                      have hbw := bel_alloc (Below.refl wr.heap.size wr) (.cells (xtV ⟨kd, nm, ats, tx⟩ B ats.length d) 36)
                      have ho := HA.out.1.bel xtP hbw
                      have hr : XtR (wr.alloc (.cells (xtV ⟨kd, nm, ats, tx⟩ B ats.length d) 36)) (fun b => b < wo.heap.size ∧ some b ≠ (Value.slice (some ⟨g, 0, none⟩) (m + 1) c).ownBlock) (some ⟨wr.heap.size, 0, none⟩) 1 [⟨kd, nm, ats, tx⟩] := by
                        refine RwR.blk1 (Blk.new wr 36 _) (xtP.bel (xtP.wide HPT.out (fun b hb _ => ⟨hb, fun e => ?_⟩)) hbw)
                        have := HA.out.1.lt b e.symm
                        omega
                      have hba : wo.heap.size ≤ (wr.alloc (.cells (xtV ⟨kd, nm, ats, tx⟩ B ats.length d) 36)).heap.size := by
                        have := HA.out.2.size
                        simp
                        omega
                      have HBW := Lib.hid (HA.out.2.trans (hbw.mono HA.out.2.size))
                      clear hbw HPT
                      simp only [xtV] at ho hr hba HBW
                      go_wp2_with (at_builtin; go_loud (refine wpList_appY xtP iXts rfl rfl rfl ho rfl hr (by omega) (by omega) hba ?_; intro A7 c7 w7 ho7 hb7 hgr7 hk7))
                      go_wp2_with fail
                      go_roundw
                      case rel => exact ⟨0 + 1, A7, m + 1 + 1, c7, by omega, by go_num, rfl, by omega, by omega, Lib.hid ⟨by rw [fold_next HG.out, HAP.out]; exact ho7, HBW.out.trans hb7⟩⟩
                      case measure => simp [intOf]; omega
                  · have t1' : decide (x.kd = 3) = false := by simpa using hu3
                    have HAP : Hid (addT ((t2.take 0).foldl addT t1) ⟨kd, nm, ats, tx⟩ = (t2.take 0).foldl addT t1 ++ [⟨kd, nm, ats, tx⟩]) := Lib.hid (by
                      by_cases h3 : kd = 3
                      · refine addT_app (.inr ⟨HQ1.out h3, fun v hv => ?_⟩)
                        have hl := HA.out.1.len
                        rw [List.getLast?_eq_getElem?, hl, Nat.add_sub_cancel, HX9.out] at hv
                        injection hv with hv
                        exact hv ▸ hu3
                      · exact addT_app (.inl h3))
                    clear HQ1 HQ2 HX9
                    subst hAg
                    have hbw := bel_alloc (Below.refl wr.heap.size wr) (.cells (xtV ⟨kd, nm, ats, tx⟩ B ats.length d) 36)
                    have ho := HA.out.1.bel xtP hbw
                    have hr : XtR (wr.alloc (.cells (xtV ⟨kd, nm, ats, tx⟩ B ats.length d) 36)) (fun b => b < wo.heap.size ∧ some b ≠ (Value.slice (some ⟨g, 0, none⟩) (m + 1) c).ownBlock) (some ⟨wr.heap.size, 0, none⟩) 1 [⟨kd, nm, ats, tx⟩] := by
                      refine RwR.blk1 (Blk.new wr 36 _) (xtP.bel (xtP.wide HPT.out (fun b hb _ => ⟨hb, fun e => ?_⟩)) hbw)
                      have := HA.out.1.lt b e.symm
                      omega
                    have hba : wo.heap.size ≤ (wr.alloc (.cells (xtV ⟨kd, nm, ats, tx⟩ B ats.length d) 36)).heap.size := by
                      have := HA.out.2.size
                      simp
                      omega
                    have HBW := Lib.hid (HA.out.2.trans (hbw.mono HA.out.2.size))
                    clear hbw HPT
                    simp only [xtV] at ho hr hba HBW
                    go_wp2_with (at_builtin; go_loud (refine wpList_appY xtP iXts rfl rfl rfl ho rfl hr (by omega) (by omega) hba ?_; intro A7 c7 w7 ho7 hb7 hgr7 hk7))
                    go_wp2_with fail
                    go_roundw
                    case rel => exact ⟨0 + 1, A7, m + 1 + 1, c7, by omega, by go_num, rfl, by omega, by omega, Lib.hid ⟨by rw [fold_next HG.out, HAP.out]; exact ho7, HBW.out.trans hb7⟩⟩
                    case measure => simp [intOf]; omega
              · have hk0' : decide ((k : Int) = 0) = false := by simpa using hk0
                have HAP : Hid (addT ((t2.take k).foldl addT t1) ⟨kd, nm, ats, tx⟩ = (t2.take k).foldl addT t1 ++ [⟨kd, nm, ats, tx⟩]) := Lib.hid (HQ2.out (by omega))
                clear HLA HQ1 HQ2
                have hbw := bel_alloc (Below.refl wr.heap.size wr) (.cells (xtV ⟨kd, nm, ats, tx⟩ B ats.length d) 36)
                have ho := HA.out.1.bel xtP hbw
                have hr : XtR (wr.alloc (.cells (xtV ⟨kd, nm, ats, tx⟩ B ats.length d) 36)) (fun b => b < wo.heap.size ∧ some b ≠ (Value.slice A' n c).ownBlock) (some ⟨wr.heap.size, 0, none⟩) 1 [⟨kd, nm, ats, tx⟩] := by
                  refine RwR.blk1 (Blk.new wr 36 _) (xtP.bel (xtP.wide HPT.out (fun b hb _ => ⟨hb, fun e => ?_⟩)) hbw)
                  have := HA.out.1.lt b e.symm
                  omega
                have hba : wo.heap.size ≤ (wr.alloc (.cells (xtV ⟨kd, nm, ats, tx⟩ B ats.length d) 36)).heap.size := by
                  have := HA.out.2.size
                  simp
                  omega
                have HBW := Lib.hid (HA.out.2.trans (hbw.mono HA.out.2.size))
                clear hbw HPT
                simp only [xtV] at ho hr hba HBW
                go_wp2_with (at_builtin; go_loud (refine wpList_appY xtP iXts rfl rfl rfl ho rfl hr (by omega) (by omega) hba ?_; intro A7 c7 w7 ho7 hb7 hgr7 hk7))
                go_wp2_with fail
                go_roundw
                case rel => exact ⟨k + 1, A7, n + 1, c7, by omega, by go_num, rfl, by omega, by omega, Lib.hid ⟨by rw [fold_next HG.out, HAP.out]; exact ho7, HBW.out.trans hb7⟩⟩
                case measure => simp [intOf]; omega
            · obtain rfl : k = n2 := by omega
              have hlt' : decide (k < k) = false := by simp
              have HZr := Lib.hid (HZ5.out.bel xtP HA.out.2)
              have HWr := Lib.hid (HW5.out.bel xtP HA.out.2)
              have HQr := Lib.hid (HA.out.1.qs xtP (S' := fun _ => True) (fun _ _ _ => trivial) (fun _ _ _ => trivial))
              have B6 := bel_step B5 HA.out.2
              rw [List.take_of_length_le (by omega)] at HQr
              clear HA HZ5 HW5 HY B5 HB3 HB4 HB5 HO6 HB6
              generalize t2.foldl addT t1 = L at *
              have hLL : decide (L = L) = true := by simp
              go_wp2_with fail
              (with_reducible refine (refSame8_any L L A3 A' n3 n c3 c _ _ _ HZr.out HQr.out ⟨hn3, hc3⟩ ⟨hcp1, hcp2⟩).mono ?_)
              rintro e w8 ⟨rfl, hb⟩
              have B8 := bel_step B6 hb
              have HW8 := Lib.hid (HWr.out.bel xtP hb)
              have HQ8 := Lib.hid (HQr.out.bel xtP hb)
              clear hb HWr HQr HZr B6
              go_wp2_with fail
              (with_reducible refine (refSame8_any L L A4 A' n4 n c4 c _ _ _ HW8.out HQ8.out ⟨hn4, hc4⟩ ⟨hcp1, hcp2⟩).mono ?_)
              rintro e w9 ⟨rfl, hb⟩
              go_wp2_with fail
              go_ret
              exact ⟨by simp, bel_step B8 hb⟩
        · have hbt : (e2 != 0) = true := by simpa using hb0
          clear HL HB
          go_wp2_with fail
          (with_reducible refine (lives08_any _ (HM.out.below B5)).mono ?_)
          rintro e w6 ⟨rfl, hb⟩
          go_wp2_with fail
          go_ret
          exact ⟨rfl, bel_step B5 hb⟩
      · have hat : (e1 != 0) = true := by simpa using ha0
        clear HL HB
        go_wp2_with fail
        (with_reducible refine (lives08_any _ (HM.out.below B5)).mono ?_)
        rintro e w6 ⟨rfl, hb⟩
        go_wp2_with fail
        go_ret
        exact ⟨rfl, bel_step B5 hb⟩
end Go.Proofs.Ytnagckdaleafdaa
