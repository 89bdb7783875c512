/-
  part: the next part of a document.
-/
import Derived.Test.YtnagckdaleafdaaXmM
namespace Go.Proofs.Ytnagckdaleafdaa
open Go.RowKit Go.Nst
set_option maxRecDepth 100000
set_option linter.unusedVariables false
set_option linter.unusedSimpArgs false

def RetPt (w : World) (g : Nat) (o : Option (List Xtk × List UInt8)) (e : Ending) (w' : World) : Prop :=
  match o with
  | some (ts, b) => RetTk w g ts (b, false) e w'
  | none => ∃ ts l', RetTk w g ts (l', true) e w' ∧ ts.length ≤ 2 ∧ ∀ t ∈ ts, t.tx.length ≤ 1000000
theorem RetTk.up {w w1 w' : World} {g : Nat} {ts : List Xtk} {s : XS} {e : Ending} (h : RetTk w1 g ts s e w') (hg : w.grownBy w1 (some g)) : RetTk w g ts s e w' := by
  obtain ⟨A, n, c, he, hA, hc, hm, hx, hg2⟩ := h
  exact ⟨A, n, c, he, hA.wide xtP (fun b hb _ => Nat.le_trans hg.size hb), hc, hm, hx, grown_two hg hg2⟩
theorem RetTx.up {w w1 w' : World} {g : Nat} {ts : List Xtk} {l : List UInt8} {b : Bool} {e : Ending} (h : RetTx w1 ts e w') (h1 : XrB w1 g l b) (hg : w.grownBy w1 (some g)) : RetTk w g ts (l, b) e w' := by
  obtain ⟨A, n, c, he, hA, hc, hm, hb⟩ := h
  exact ⟨A, n, c, he, hA.wide xtP (fun b hb _ => Nat.le_trans hg.size hb), hc, hm, h1.below hb h1.lt, grown_two hg (only_of_below hb _)⟩
theorem RetTk.none_ {w w' : World} {g : Nat} {s : XS} (h1 : XrB w' g s.1 s.2) (hg : w.grownBy w' (some g)) : RetTk w g [] s (.returned (.slice none 0 0)) w' := ⟨none, 0, 0, rfl, RwA.nil _, Nat.le_refl _, by omega, h1, hg⟩
theorem RetOp.pt {w w1 w' : World} {g : Nat} {o : Option (List Xtk × List UInt8)} {e : Ending} (h : RetOp w1 g o e w') (hg : w.grownBy w1 (some g)) : RetPt w g o e w' := by
  cases o with
  | none =>
    obtain ⟨l', h⟩ := h
    exact ⟨[], l', h.up hg, by simp, by simp⟩
  | some x =>
    obtain ⟨ts, b⟩ := x
    exact RetTk.up h hg
theorem uptoD_cases (l sep : List UInt8) : (∃ a b, uptoD l sep = some (a, b) ∧ cUpto sep (l, false) = (a, (b, false)) ∧ a.length ≤ l.length) ∨ (uptoD l sep = none ∧ cUpto sep (l, false) = ([], (l, true))) := by
  unfold uptoD cUpto
  by_cases h : (Lib.cut l sep).2.2 = true
  · left
    have := cut_len h
    exact ⟨_, _, by rw [if_pos h], by simp only; rw [if_pos h], by omega⟩
  · right
    exact ⟨by rw [if_neg h], by simp only; rw [if_neg h]⟩
/-- what a tag that closes is -/
def closeD (l : List UInt8) : Option (List Xtk × List UInt8) := match nameD l with | none => none | some (n, r) => match r.dropWhile blkB with | [] => none | c :: t => if c = 62 then some ([⟨2, n, [], []⟩], t) else none
theorem closeD_cases (l : List UInt8) : (∃ ts b, closeD l = some (ts, b) ∧ ts = [⟨2, (cName (l, false)).1, [], []⟩] ∧ cClose (l, false) = (b, false)) ∨ (closeD l = none ∧ ∃ l', cClose (l, false) = (l', true)) := by
  have bad : ∀ s : XS, s.2 = true → ∃ l', s = (l', true) := fun s h => ⟨s.1, by rw [← h]⟩
  unfold closeD cClose
  rcases hn : nameD l with _ | ⟨n, r⟩
  · right
    exact ⟨rfl, bad _ (cMust_bad _ _ (cName_none hn))⟩
  · rw [cName_some hn]
    simp only
    unfold cBlank
    simp only
    rcases hr : r.dropWhile blkB with _ | ⟨c, t⟩
    · right
      exact ⟨rfl, _, rfl⟩
    · by_cases h62 : c = 62
      · subst h62
        left
        exact ⟨_, t, rfl, rfl, by simp [cMust, has_c1]⟩
      · right
        have : Lib.hasPrefix (c :: t) [62] = false := by rw [has_c1]; simpa using Ne.symm h62
        exact ⟨by simp only; rw [if_neg h62], _, by simp [cMust, this]; rfl⟩
set_option maxHeartbeats 4000000 in
theorem part8_0 (g : Nat) (l : List UInt8) (w : World) (hB : XrB w g l false) (hl : l.length ≤ 100000) (hM : ML w) (p0 : Lib.hasPrefix l [60, 33, 45, 45] = true) :
    Calls Try.prog 18 #[.pointer (some ⟨g, 0, none⟩)] w (RetPt w g (match uptoD (l.drop 4) [45, 45, 62] with | none => none | some (_, b) => some ([], b) : Option (List Xtk × List UInt8))) := by
  have hdl : (l.drop 4).length ≤ 100000 := by rw [List.length_drop]; omega
  have HU := Lib.hid (fun (W : World) (h : XrB W g (l.drop 4) false) (h2 : ML W) => upto8_any g [45, 45, 62] ((l.drop 4), false) W h (by simp only; omega) h2)
  rcases uptoD_cases (l.drop 4) [45, 45, 62] with ⟨a, b, hu, hc, -⟩ | ⟨hu, hc⟩
  · rw [hu]
    rw [hc] at HU
    simp only at HU
    clear hu hc
    have F0 := Lib.hid (And.intro hB (And.intro (World.grownBy.refl w (some g)) hM))
    clear hB hM
    go_enter Try.func18, Try.ntmps18
    have HT0 := take8_any g [60, 33, 45, 45] (l, false) w F0.out.1
    unfold cTake at HT0
    simp only [p0, if_true] at HT0
    have HT0 := Lib.hid HT0
    clear p0
    go_wp2_with fail
    (with_reducible refine (HT0.out).mono ?_)
    rintro e w1 ⟨rfl, h1, h2⟩
    have F1 := Lib.hid (And.intro h1 (And.intro (grown_two F0.out.2.1 h2) (F0.out.2.2.xr F0.out.1 h2)))
    clear F0 HT0 h1 h2
    have HUU := Lib.hid (HU.out _ F1.out.1 F1.out.2.2)
    clear HU
    go_wp2_with fail
    (with_reducible refine (HUU.out).mono ?_)
    rintro e w8 ⟨rfl, h1, h2⟩
    go_wp2_with fail
    go_ret
    exact RetTk.none_ (s := (b, false)) h1 (grown_two F1.out.2.1 h2)
  · rw [hu]
    rw [hc] at HU
    simp only at HU
    clear hu hc
    have F0 := Lib.hid (And.intro hB (And.intro (World.grownBy.refl w (some g)) hM))
    clear hB hM
    go_enter Try.func18, Try.ntmps18
    have HT0 := take8_any g [60, 33, 45, 45] (l, false) w F0.out.1
    unfold cTake at HT0
    simp only [p0, if_true] at HT0
    have HT0 := Lib.hid HT0
    clear p0
    go_wp2_with fail
    (with_reducible refine (HT0.out).mono ?_)
    rintro e w1 ⟨rfl, h1, h2⟩
    have F1 := Lib.hid (And.intro h1 (And.intro (grown_two F0.out.2.1 h2) (F0.out.2.2.xr F0.out.1 h2)))
    clear F0 HT0 h1 h2
    have HUU := Lib.hid (HU.out _ F1.out.1 F1.out.2.2)
    clear HU
    go_wp2_with fail
    (with_reducible refine (HUU.out).mono ?_)
    rintro e w8 ⟨rfl, h1, h2⟩
    go_wp2_with fail
    go_ret
    exact ⟨[], (l.drop 4), RetTk.none_ (s := ((l.drop 4), true)) h1 (grown_two F1.out.2.1 h2), by simp, by simp⟩
set_option maxHeartbeats 4000000 in
theorem part8_1 (g : Nat) (l : List UInt8) (w : World) (hB : XrB w g l false) (hl : l.length ≤ 100000) (hM : ML w) (p0 : Lib.hasPrefix l [60, 33, 45, 45] = false) (p1 : Lib.hasPrefix l [60, 63] = true) :
    Calls Try.prog 18 #[.pointer (some ⟨g, 0, none⟩)] w (RetPt w g (match uptoD (l.drop 2) [63, 62] with | none => none | some (_, b) => some ([], b) : Option (List Xtk × List UInt8))) := by
  have hdl : (l.drop 2).length ≤ 100000 := by rw [List.length_drop]; omega
  have HU := Lib.hid (fun (W : World) (h : XrB W g (l.drop 2) false) (h2 : ML W) => upto8_any g [63, 62] ((l.drop 2), false) W h (by simp only; omega) h2)
  rcases uptoD_cases (l.drop 2) [63, 62] with ⟨a, b, hu, hc, -⟩ | ⟨hu, hc⟩
  · rw [hu]
    rw [hc] at HU
    simp only at HU
    clear hu hc
    have F0 := Lib.hid (And.intro hB (And.intro (World.grownBy.refl w (some g)) hM))
    clear hB hM
    go_enter Try.func18, Try.ntmps18
    have HT0 := take8_any g [60, 33, 45, 45] (l, false) w F0.out.1
    unfold cTake at HT0
    simp only [p0, Bool.false_eq_true, if_false] at HT0
    have HT0 := Lib.hid HT0
    clear p0
    go_wp2_with fail
    (with_reducible refine (HT0.out).mono ?_)
    rintro e w1 ⟨rfl, h1, h2⟩
    have F1 := Lib.hid (And.intro h1 (And.intro (grown_two F0.out.2.1 h2) (F0.out.2.2.xr F0.out.1 h2)))
    clear F0 HT0 h1 h2
    have HT1 := take8_any g [60, 63] (l, false) w1 F1.out.1
    unfold cTake at HT1
    simp only [p1, if_true] at HT1
    have HT1 := Lib.hid HT1
    clear p1
    go_wp2_with fail
    (with_reducible refine (HT1.out).mono ?_)
    rintro e w2 ⟨rfl, h1, h2⟩
    have F2 := Lib.hid (And.intro h1 (And.intro (grown_two F1.out.2.1 h2) (F1.out.2.2.xr F1.out.1 h2)))
    clear F1 HT1 h1 h2
    have HUU := Lib.hid (HU.out _ F2.out.1 F2.out.2.2)
    clear HU
    go_wp2_with fail
    (with_reducible refine (HUU.out).mono ?_)
    rintro e w8 ⟨rfl, h1, h2⟩
    go_wp2_with fail
    go_ret
    exact RetTk.none_ (s := (b, false)) h1 (grown_two F2.out.2.1 h2)
  · rw [hu]
    rw [hc] at HU
    simp only at HU
    clear hu hc
    have F0 := Lib.hid (And.intro hB (And.intro (World.grownBy.refl w (some g)) hM))
    clear hB hM
    go_enter Try.func18, Try.ntmps18
    have HT0 := take8_any g [60, 33, 45, 45] (l, false) w F0.out.1
    unfold cTake at HT0
    simp only [p0, Bool.false_eq_true, if_false] at HT0
    have HT0 := Lib.hid HT0
    clear p0
    go_wp2_with fail
    (with_reducible refine (HT0.out).mono ?_)
    rintro e w1 ⟨rfl, h1, h2⟩
    have F1 := Lib.hid (And.intro h1 (And.intro (grown_two F0.out.2.1 h2) (F0.out.2.2.xr F0.out.1 h2)))
    clear F0 HT0 h1 h2
    have HT1 := take8_any g [60, 63] (l, false) w1 F1.out.1
    unfold cTake at HT1
    simp only [p1, if_true] at HT1
    have HT1 := Lib.hid HT1
    clear p1
    go_wp2_with fail
    (with_reducible refine (HT1.out).mono ?_)
    rintro e w2 ⟨rfl, h1, h2⟩
    have F2 := Lib.hid (And.intro h1 (And.intro (grown_two F1.out.2.1 h2) (F1.out.2.2.xr F1.out.1 h2)))
    clear F1 HT1 h1 h2
    have HUU := Lib.hid (HU.out _ F2.out.1 F2.out.2.2)
    clear HU
    go_wp2_with fail
    (with_reducible refine (HUU.out).mono ?_)
    rintro e w8 ⟨rfl, h1, h2⟩
    go_wp2_with fail
    go_ret
    exact ⟨[], (l.drop 2), RetTk.none_ (s := ((l.drop 2), true)) h1 (grown_two F2.out.2.1 h2), by simp, by simp⟩
set_option maxHeartbeats 4000000 in
theorem part8_2 (g : Nat) (l : List UInt8) (w : World) (hB : XrB w g l false) (hl : l.length ≤ 100000) (hM : ML w) (p0 : Lib.hasPrefix l [60, 33, 45, 45] = false) (p1 : Lib.hasPrefix l [60, 63] = false) (p2 : Lib.hasPrefix l [60, 33, 68, 79, 67, 84, 89, 80, 69] = true) :
    Calls Try.prog 18 #[.pointer (some ⟨g, 0, none⟩)] w (RetPt w g (match uptoD (l.drop 9) [62] with | none => none | some (a, b) => if (91 : UInt8) ∈ a then none else some ([], b) : Option (List Xtk × List UInt8))) := by
  have hdl : (l.drop 9).length ≤ 100000 := by rw [List.length_drop]; omega
  have HU := Lib.hid (fun (W : World) (h : XrB W g (l.drop 9) false) (h2 : ML W) => kind8_any g ((l.drop 9), false) W h hdl h2)
  have hk : cKind ((l.drop 9), false) = ((cUpto [62] ((l.drop 9), false)).2.1, decide ((91 : UInt8) ∈ (cUpto [62] ((l.drop 9), false)).1) || (cUpto [62] ((l.drop 9), false)).2.2) := rfl
  have HK : Hid ((∃ b, (match uptoD (l.drop 9) [62] with | none => none | some (a, b) => if (91 : UInt8) ∈ a then none else some ([], b) : Option (List Xtk × List UInt8)) = some ([], b) ∧ cKind ((l.drop 9), false) = (b, false)) ∨ ((match uptoD (l.drop 9) [62] with | none => none | some (a, b) => if (91 : UInt8) ∈ a then none else some ([], b) : Option (List Xtk × List UInt8)) = none ∧ ∃ l', cKind ((l.drop 9), false) = (l', true))) := Lib.hid (by
    rcases uptoD_cases (l.drop 9) [62] with ⟨a, b, hu, hc, -⟩ | ⟨hu, hc⟩
    · rw [hk, hu, hc]
      simp only
      by_cases h91 : (91 : UInt8) ∈ a
      · right
        exact ⟨by rw [if_pos h91], b, by simp [h91]⟩
      · left
        exact ⟨b, by rw [if_neg h91], by simp [h91]⟩
    · rw [hk, hu, hc]
      right
      exact ⟨rfl, (l.drop 9), by simp⟩)
  clear hk
  generalize (match uptoD (l.drop 9) [62] with | none => none | some (a, b) => if (91 : UInt8) ∈ a then none else some ([], b) : Option (List Xtk × List UInt8)) = o at *
  generalize cKind ((l.drop 9), false) = s at *
  have F0 := Lib.hid (And.intro hB (And.intro (World.grownBy.refl w (some g)) hM))
  clear hB hM
  go_enter Try.func18, Try.ntmps18
  have HT0 := take8_any g [60, 33, 45, 45] (l, false) w F0.out.1
  unfold cTake at HT0
  simp only [p0, Bool.false_eq_true, if_false] at HT0
  have HT0 := Lib.hid HT0
  clear p0
  go_wp2_with fail
  (with_reducible refine (HT0.out).mono ?_)
  rintro e w1 ⟨rfl, h1, h2⟩
  have F1 := Lib.hid (And.intro h1 (And.intro (grown_two F0.out.2.1 h2) (F0.out.2.2.xr F0.out.1 h2)))
  clear F0 HT0 h1 h2
  have HT1 := take8_any g [60, 63] (l, false) w1 F1.out.1
  unfold cTake at HT1
  simp only [p1, Bool.false_eq_true, if_false] at HT1
  have HT1 := Lib.hid HT1
  clear p1
  go_wp2_with fail
  (with_reducible refine (HT1.out).mono ?_)
  rintro e w2 ⟨rfl, h1, h2⟩
  have F2 := Lib.hid (And.intro h1 (And.intro (grown_two F1.out.2.1 h2) (F1.out.2.2.xr F1.out.1 h2)))
  clear F1 HT1 h1 h2
  have HT2 := take8_any g [60, 33, 68, 79, 67, 84, 89, 80, 69] (l, false) w2 F2.out.1
  unfold cTake at HT2
  simp only [p2, if_true] at HT2
  have HT2 := Lib.hid HT2
  clear p2
  go_wp2_with fail
  (with_reducible refine (HT2.out).mono ?_)
  rintro e w3 ⟨rfl, h1, h2⟩
  have F3 := Lib.hid (And.intro h1 (And.intro (grown_two F2.out.2.1 h2) (F2.out.2.2.xr F2.out.1 h2)))
  clear F2 HT2 h1 h2
  have HUU := Lib.hid (HU.out _ F3.out.1 F3.out.2.2)
  clear HU
  go_wp2_with fail
  (with_reducible refine (HUU.out).mono ?_)
  rintro e w8 ⟨rfl, h1, h2⟩
  go_wp2_with fail
  go_ret
  rcases HK.out with ⟨b, rfl, rfl⟩ | ⟨rfl, l', rfl⟩
  · exact RetTk.none_ (s := (b, false)) h1 (grown_two F3.out.2.1 h2)
  · exact ⟨[], l', RetTk.none_ (s := (l', true)) h1 (grown_two F3.out.2.1 h2), by simp, by simp⟩
set_option maxHeartbeats 4000000 in
theorem part8_3 (g : Nat) (l : List UInt8) (w : World) (hB : XrB w g l false) (hl : l.length ≤ 100000) (hM : ML w) (p0 : Lib.hasPrefix l [60, 33, 45, 45] = false) (p1 : Lib.hasPrefix l [60, 63] = false) (p2 : Lib.hasPrefix l [60, 33, 68, 79, 67, 84, 89, 80, 69] = false) (p3 : Lib.hasPrefix l [60, 33, 91, 67, 68, 65, 84, 65, 91] = true) :
    Calls Try.prog 18 #[.pointer (some ⟨g, 0, none⟩)] w (RetPt w g (match uptoD (l.drop 9) [93, 93, 62] with | none => none | some (a, b) => some ([⟨3, [], [], a⟩], b))) := by
  have hdl : (l.drop 9).length ≤ 100000 := by rw [List.length_drop]; omega
  have HU := Lib.hid (fun (W : World) (h : XrB W g (l.drop 9) false) (h2 : ML W) => upto8_any g [93, 93, 62] ((l.drop 9), false) W h (by simp only; omega) h2)
  rcases uptoD_cases (l.drop 9) [93, 93, 62] with ⟨a, b, hu, hc, hal⟩ | ⟨hu, hc⟩
  · rw [hu]
    rw [hc] at HU
    simp only at HU
    clear hu hc
    have HX := Lib.hid (fun W => text8_any a W (by omega))
    have F0 := Lib.hid (And.intro hB (And.intro (World.grownBy.refl w (some g)) hM))
    clear hB hM
    go_enter Try.func18, Try.ntmps18
    have HT0 := take8_any g [60, 33, 45, 45] (l, false) w F0.out.1
    unfold cTake at HT0
    simp only [p0, Bool.false_eq_true, if_false] at HT0
    have HT0 := Lib.hid HT0
    clear p0
    go_wp2_with fail
    (with_reducible refine (HT0.out).mono ?_)
    rintro e w1 ⟨rfl, h1, h2⟩
    have F1 := Lib.hid (And.intro h1 (And.intro (grown_two F0.out.2.1 h2) (F0.out.2.2.xr F0.out.1 h2)))
    clear F0 HT0 h1 h2
    have HT1 := take8_any g [60, 63] (l, false) w1 F1.out.1
    unfold cTake at HT1
    simp only [p1, Bool.false_eq_true, if_false] at HT1
    have HT1 := Lib.hid HT1
    clear p1
    go_wp2_with fail
    (with_reducible refine (HT1.out).mono ?_)
    rintro e w2 ⟨rfl, h1, h2⟩
    have F2 := Lib.hid (And.intro h1 (And.intro (grown_two F1.out.2.1 h2) (F1.out.2.2.xr F1.out.1 h2)))
    clear F1 HT1 h1 h2
    have HT2 := take8_any g [60, 33, 68, 79, 67, 84, 89, 80, 69] (l, false) w2 F2.out.1
    unfold cTake at HT2
    simp only [p2, Bool.false_eq_true, if_false] at HT2
    have HT2 := Lib.hid HT2
    clear p2
    go_wp2_with fail
    (with_reducible refine (HT2.out).mono ?_)
    rintro e w3 ⟨rfl, h1, h2⟩
    have F3 := Lib.hid (And.intro h1 (And.intro (grown_two F2.out.2.1 h2) (F2.out.2.2.xr F2.out.1 h2)))
    clear F2 HT2 h1 h2
    have HT3 := take8_any g [60, 33, 91, 67, 68, 65, 84, 65, 91] (l, false) w3 F3.out.1
    unfold cTake at HT3
    simp only [p3, if_true] at HT3
    have HT3 := Lib.hid HT3
    clear p3
    go_wp2_with fail
    (with_reducible refine (HT3.out).mono ?_)
    rintro e w4 ⟨rfl, h1, h2⟩
    have F4 := Lib.hid (And.intro h1 (And.intro (grown_two F3.out.2.1 h2) (F3.out.2.2.xr F3.out.1 h2)))
    clear F3 HT3 h1 h2
    have HUU := Lib.hid (HU.out _ F4.out.1 F4.out.2.2)
    clear HU
    go_wp2_with fail
    (with_reducible refine (HUU.out).mono ?_)
    rintro e w8 ⟨rfl, h1, h2⟩
    go_wp2_with fail
    (with_reducible refine (HX.out _).mono ?_)
    rintro e w9 ⟨A, n, c, rfl, hA⟩
    go_wp2_with fail
    go_ret
    exact RetTx.up ⟨A, n, c, rfl, hA⟩ h1 (grown_two F4.out.2.1 h2)
  · rw [hu]
    rw [hc] at HU
    simp only at HU
    clear hu hc
    have HX := Lib.hid (fun W => text8_any [] W (by simp))
    have F0 := Lib.hid (And.intro hB (And.intro (World.grownBy.refl w (some g)) hM))
    clear hB hM
    go_enter Try.func18, Try.ntmps18
    have HT0 := take8_any g [60, 33, 45, 45] (l, false) w F0.out.1
    unfold cTake at HT0
    simp only [p0, Bool.false_eq_true, if_false] at HT0
    have HT0 := Lib.hid HT0
    clear p0
    go_wp2_with fail
    (with_reducible refine (HT0.out).mono ?_)
    rintro e w1 ⟨rfl, h1, h2⟩
    have F1 := Lib.hid (And.intro h1 (And.intro (grown_two F0.out.2.1 h2) (F0.out.2.2.xr F0.out.1 h2)))
    clear F0 HT0 h1 h2
    have HT1 := take8_any g [60, 63] (l, false) w1 F1.out.1
    unfold cTake at HT1
    simp only [p1, Bool.false_eq_true, if_false] at HT1
    have HT1 := Lib.hid HT1
    clear p1
    go_wp2_with fail
    (with_reducible refine (HT1.out).mono ?_)
    rintro e w2 ⟨rfl, h1, h2⟩
    have F2 := Lib.hid (And.intro h1 (And.intro (grown_two F1.out.2.1 h2) (F1.out.2.2.xr F1.out.1 h2)))
    clear F1 HT1 h1 h2
    have HT2 := take8_any g [60, 33, 68, 79, 67, 84, 89, 80, 69] (l, false) w2 F2.out.1
    unfold cTake at HT2
    simp only [p2, Bool.false_eq_true, if_false] at HT2
    have HT2 := Lib.hid HT2
    clear p2
    go_wp2_with fail
    (with_reducible refine (HT2.out).mono ?_)
    rintro e w3 ⟨rfl, h1, h2⟩
    have F3 := Lib.hid (And.intro h1 (And.intro (grown_two F2.out.2.1 h2) (F2.out.2.2.xr F2.out.1 h2)))
    clear F2 HT2 h1 h2
    have HT3 := take8_any g [60, 33, 91, 67, 68, 65, 84, 65, 91] (l, false) w3 F3.out.1
    unfold cTake at HT3
    simp only [p3, if_true] at HT3
    have HT3 := Lib.hid HT3
    clear p3
    go_wp2_with fail
    (with_reducible refine (HT3.out).mono ?_)
    rintro e w4 ⟨rfl, h1, h2⟩
    have F4 := Lib.hid (And.intro h1 (And.intro (grown_two F3.out.2.1 h2) (F3.out.2.2.xr F3.out.1 h2)))
    clear F3 HT3 h1 h2
    have HUU := Lib.hid (HU.out _ F4.out.1 F4.out.2.2)
    clear HU
    go_wp2_with fail
    (with_reducible refine (HUU.out).mono ?_)
    rintro e w8 ⟨rfl, h1, h2⟩
    go_wp2_with fail
    (with_reducible refine (HX.out _).mono ?_)
    rintro e w9 ⟨A, n, c, rfl, hA⟩
    go_wp2_with fail
    go_ret
    exact ⟨_, _, RetTx.up ⟨A, n, c, rfl, hA⟩ h1 (grown_two F4.out.2.1 h2), by simp, by simp⟩
set_option maxHeartbeats 4000000 in
theorem part8_4 (g : Nat) (l : List UInt8) (w : World) (hB : XrB w g l false) (hl : l.length ≤ 100000) (hM : ML w) (p0 : Lib.hasPrefix l [60, 33, 45, 45] = false) (p1 : Lib.hasPrefix l [60, 63] = false) (p2 : Lib.hasPrefix l [60, 33, 68, 79, 67, 84, 89, 80, 69] = false) (p3 : Lib.hasPrefix l [60, 33, 91, 67, 68, 65, 84, 65, 91] = false) (p4 : Lib.hasPrefix l [60, 47] = true) :
    Calls Try.prog 18 #[.pointer (some ⟨g, 0, none⟩)] w (RetPt w g (closeD (l.drop 2))) := by
  have hdl : (l.drop 2).length ≤ 100000 := by rw [List.length_drop]; omega
  have HU := Lib.hid (fun (W : World) (h : XrB W g (l.drop 2) false) => close8_any g ((l.drop 2), false) W h hdl)
  have HK := Lib.hid (closeD_cases (l.drop 2))
  generalize closeD (l.drop 2) = o at *
  generalize cClose ((l.drop 2), false) = s at *
  generalize (cName ((l.drop 2), false)).1 = nm at *
  have F0 := Lib.hid (And.intro hB (And.intro (World.grownBy.refl w (some g)) hM))
  clear hB hM
  go_enter Try.func18, Try.ntmps18
  have HT0 := take8_any g [60, 33, 45, 45] (l, false) w F0.out.1
  unfold cTake at HT0
  simp only [p0, Bool.false_eq_true, if_false] at HT0
  have HT0 := Lib.hid HT0
  clear p0
  go_wp2_with fail
  (with_reducible refine (HT0.out).mono ?_)
  rintro e w1 ⟨rfl, h1, h2⟩
  have F1 := Lib.hid (And.intro h1 (And.intro (grown_two F0.out.2.1 h2) (F0.out.2.2.xr F0.out.1 h2)))
  clear F0 HT0 h1 h2
  have HT1 := take8_any g [60, 63] (l, false) w1 F1.out.1
  unfold cTake at HT1
  simp only [p1, Bool.false_eq_true, if_false] at HT1
  have HT1 := Lib.hid HT1
  clear p1
  go_wp2_with fail
  (with_reducible refine (HT1.out).mono ?_)
  rintro e w2 ⟨rfl, h1, h2⟩
  have F2 := Lib.hid (And.intro h1 (And.intro (grown_two F1.out.2.1 h2) (F1.out.2.2.xr F1.out.1 h2)))
  clear F1 HT1 h1 h2
  have HT2 := take8_any g [60, 33, 68, 79, 67, 84, 89, 80, 69] (l, false) w2 F2.out.1
  unfold cTake at HT2
  simp only [p2, Bool.false_eq_true, if_false] at HT2
  have HT2 := Lib.hid HT2
  clear p2
  go_wp2_with fail
  (with_reducible refine (HT2.out).mono ?_)
  rintro e w3 ⟨rfl, h1, h2⟩
  have F3 := Lib.hid (And.intro h1 (And.intro (grown_two F2.out.2.1 h2) (F2.out.2.2.xr F2.out.1 h2)))
  clear F2 HT2 h1 h2
  have HT3 := take8_any g [60, 33, 91, 67, 68, 65, 84, 65, 91] (l, false) w3 F3.out.1
  unfold cTake at HT3
  simp only [p3, Bool.false_eq_true, if_false] at HT3
  have HT3 := Lib.hid HT3
  clear p3
  go_wp2_with fail
  (with_reducible refine (HT3.out).mono ?_)
  rintro e w4 ⟨rfl, h1, h2⟩
  have F4 := Lib.hid (And.intro h1 (And.intro (grown_two F3.out.2.1 h2) (F3.out.2.2.xr F3.out.1 h2)))
  clear F3 HT3 h1 h2
  have HT4 := take8_any g [60, 47] (l, false) w4 F4.out.1
  unfold cTake at HT4
  simp only [p4, if_true] at HT4
  have HT4 := Lib.hid HT4
  clear p4
  go_wp2_with fail
  (with_reducible refine (HT4.out).mono ?_)
  rintro e w5 ⟨rfl, h1, h2⟩
  have F5 := Lib.hid (And.intro h1 (And.intro (grown_two F4.out.2.1 h2) (F4.out.2.2.xr F4.out.1 h2)))
  clear F4 HT4 h1 h2
  have HUU := Lib.hid (HU.out _ F5.out.1)
  clear HU
  go_wp2_with fail
  (with_reducible refine (HUU.out).mono ?_)
  rintro e w8 ⟨A, n, c, rfl, hA⟩
  go_wp2_with fail
  go_ret
  rcases HK.out with ⟨ts, b, rfl, rfl, rfl⟩ | ⟨rfl, l', rfl⟩
  · exact RetTk.up ⟨A, n, c, rfl, hA⟩ F5.out.2.1
  · exact ⟨_, l', RetTk.up ⟨A, n, c, rfl, hA⟩ F5.out.2.1, by simp, by simp⟩
set_option maxHeartbeats 4000000 in
theorem part8_5 (g : Nat) (l : List UInt8) (w : World) (hB : XrB w g l false) (hl : l.length ≤ 100000) (hM : ML w) (p0 : Lib.hasPrefix l [60, 33, 45, 45] = false) (p1 : Lib.hasPrefix l [60, 63] = false) (p2 : Lib.hasPrefix l [60, 33, 68, 79, 67, 84, 89, 80, 69] = false) (p3 : Lib.hasPrefix l [60, 33, 91, 67, 68, 65, 84, 65, 91] = false) (p4 : Lib.hasPrefix l [60, 47] = false) (p5 : Lib.hasPrefix l [60] = true) :
    Calls Try.prog 18 #[.pointer (some ⟨g, 0, none⟩)] w (RetPt w g (openN (l.drop 1))) := by
  have hdl : (l.drop 1).length ≤ 100000 := by rw [List.length_drop]; omega
  have HU := Lib.hid (fun (W : World) (h : XrB W g (l.drop 1) false) (h2 : ML W) => open8_any g (l.drop 1) W h hdl h2)
  generalize openN (l.drop 1) = o at *
  have F0 := Lib.hid (And.intro hB (And.intro (World.grownBy.refl w (some g)) hM))
  clear hB hM
  go_enter Try.func18, Try.ntmps18
  have HT0 := take8_any g [60, 33, 45, 45] (l, false) w F0.out.1
  unfold cTake at HT0
  simp only [p0, Bool.false_eq_true, if_false] at HT0
  have HT0 := Lib.hid HT0
  clear p0
  go_wp2_with fail
  (with_reducible refine (HT0.out).mono ?_)
  rintro e w1 ⟨rfl, h1, h2⟩
  have F1 := Lib.hid (And.intro h1 (And.intro (grown_two F0.out.2.1 h2) (F0.out.2.2.xr F0.out.1 h2)))
  clear F0 HT0 h1 h2
  have HT1 := take8_any g [60, 63] (l, false) w1 F1.out.1
  unfold cTake at HT1
  simp only [p1, Bool.false_eq_true, if_false] at HT1
  have HT1 := Lib.hid HT1
  clear p1
  go_wp2_with fail
  (with_reducible refine (HT1.out).mono ?_)
  rintro e w2 ⟨rfl, h1, h2⟩
  have F2 := Lib.hid (And.intro h1 (And.intro (grown_two F1.out.2.1 h2) (F1.out.2.2.xr F1.out.1 h2)))
  clear F1 HT1 h1 h2
  have HT2 := take8_any g [60, 33, 68, 79, 67, 84, 89, 80, 69] (l, false) w2 F2.out.1
  unfold cTake at HT2
  simp only [p2, Bool.false_eq_true, if_false] at HT2
  have HT2 := Lib.hid HT2
  clear p2
  go_wp2_with fail
  (with_reducible refine (HT2.out).mono ?_)
  rintro e w3 ⟨rfl, h1, h2⟩
  have F3 := Lib.hid (And.intro h1 (And.intro (grown_two F2.out.2.1 h2) (F2.out.2.2.xr F2.out.1 h2)))
  clear F2 HT2 h1 h2
  have HT3 := take8_any g [60, 33, 91, 67, 68, 65, 84, 65, 91] (l, false) w3 F3.out.1
  unfold cTake at HT3
  simp only [p3, Bool.false_eq_true, if_false] at HT3
  have HT3 := Lib.hid HT3
  clear p3
  go_wp2_with fail
  (with_reducible refine (HT3.out).mono ?_)
  rintro e w4 ⟨rfl, h1, h2⟩
  have F4 := Lib.hid (And.intro h1 (And.intro (grown_two F3.out.2.1 h2) (F3.out.2.2.xr F3.out.1 h2)))
  clear F3 HT3 h1 h2
  have HT4 := take8_any g [60, 47] (l, false) w4 F4.out.1
  unfold cTake at HT4
  simp only [p4, Bool.false_eq_true, if_false] at HT4
  have HT4 := Lib.hid HT4
  clear p4
  go_wp2_with fail
  (with_reducible refine (HT4.out).mono ?_)
  rintro e w5 ⟨rfl, h1, h2⟩
  have F5 := Lib.hid (And.intro h1 (And.intro (grown_two F4.out.2.1 h2) (F4.out.2.2.xr F4.out.1 h2)))
  clear F4 HT4 h1 h2
  have HT5 := take8_any g [60] (l, false) w5 F5.out.1
  unfold cTake at HT5
  simp only [p5, if_true] at HT5
  have HT5 := Lib.hid HT5
  clear p5
  go_wp2_with fail
  (with_reducible refine (HT5.out).mono ?_)
  rintro e w6 ⟨rfl, h1, h2⟩
  have F6 := Lib.hid (And.intro h1 (And.intro (grown_two F5.out.2.1 h2) (F5.out.2.2.xr F5.out.1 h2)))
  clear F5 HT5 h1 h2
  have HUU := Lib.hid (HU.out _ F6.out.1 F6.out.2.2)
  clear HU
  go_wp2_with fail
  (with_reducible refine (HUU.out).mono ?_)
  intro e w8 hh
  have hs : ∃ A n c, e = .returned (.slice A n c) := by
    cases o with
    | none => obtain ⟨l', A, n, c, he, _⟩ := hh; exact ⟨A, n, c, he⟩
    | some x => obtain ⟨ts, b⟩ := x; obtain ⟨A, n, c, he, _⟩ := hh; exact ⟨A, n, c, he⟩
  obtain ⟨A, n, c, rfl⟩ := hs
  have HH := Lib.hid hh
  clear hh
  go_wp2_with fail
  go_ret
  exact RetOp.pt HH.out F6.out.2.1
set_option maxHeartbeats 4000000 in
theorem part8_6 (g : Nat) (l : List UInt8) (w : World) (hB : XrB w g l false) (hl : l.length ≤ 100000) (hM : ML w) (p0 : Lib.hasPrefix l [60, 33, 45, 45] = false) (p1 : Lib.hasPrefix l [60, 63] = false) (p2 : Lib.hasPrefix l [60, 33, 68, 79, 67, 84, 89, 80, 69] = false) (p3 : Lib.hasPrefix l [60, 33, 91, 67, 68, 65, 84, 65, 91] = false) (p4 : Lib.hasPrefix l [60, 47] = false) (p5 : Lib.hasPrefix l [60] = false) :
    Calls Try.prog 18 #[.pointer (some ⟨g, 0, none⟩)] w (RetPt w g (some ([⟨3, [], [], readL (l.takeWhile txtB)⟩], l.dropWhile txtB))) := by
  have HU := Lib.hid (fun (W : World) (h : XrB W g l false) => run_txt g l false W h (by omega))
  unfold XRun at HU
  have hrl := readL_len _ (l.takeWhile txtB) (Nat.le_refl _)
  have htl : (l.takeWhile txtB).length ≤ l.length := (List.takeWhile_prefix txtB).length_le
  have HR := Lib.hid (fun (W : World) (h2 : ML W) => read7_any (l.takeWhile txtB) W (by omega) h2)
  have HX := Lib.hid (fun W => text8_any (readL (l.takeWhile txtB)) W (by omega))
  generalize readL (l.takeWhile txtB) = rd at *
  generalize l.takeWhile txtB = tw at *
  generalize l.dropWhile txtB = dw at *
  have F0 := Lib.hid (And.intro hB (And.intro (World.grownBy.refl w (some g)) hM))
  clear hB hM
  go_enter Try.func18, Try.ntmps18
  have HT0 := take8_any g [60, 33, 45, 45] (l, false) w F0.out.1
  unfold cTake at HT0
  simp only [p0, Bool.false_eq_true, if_false] at HT0
  have HT0 := Lib.hid HT0
  clear p0
  go_wp2_with fail
  (with_reducible refine (HT0.out).mono ?_)
  rintro e w1 ⟨rfl, h1, h2⟩
  have F1 := Lib.hid (And.intro h1 (And.intro (grown_two F0.out.2.1 h2) (F0.out.2.2.xr F0.out.1 h2)))
  clear F0 HT0 h1 h2
  have HT1 := take8_any g [60, 63] (l, false) w1 F1.out.1
  unfold cTake at HT1
  simp only [p1, Bool.false_eq_true, if_false] at HT1
  have HT1 := Lib.hid HT1
  clear p1
  go_wp2_with fail
  (with_reducible refine (HT1.out).mono ?_)
  rintro e w2 ⟨rfl, h1, h2⟩
  have F2 := Lib.hid (And.intro h1 (And.intro (grown_two F1.out.2.1 h2) (F1.out.2.2.xr F1.out.1 h2)))
  clear F1 HT1 h1 h2
  have HT2 := take8_any g [60, 33, 68, 79, 67, 84, 89, 80, 69] (l, false) w2 F2.out.1
  unfold cTake at HT2
  simp only [p2, Bool.false_eq_true, if_false] at HT2
  have HT2 := Lib.hid HT2
  clear p2
  go_wp2_with fail
  (with_reducible refine (HT2.out).mono ?_)
  rintro e w3 ⟨rfl, h1, h2⟩
  have F3 := Lib.hid (And.intro h1 (And.intro (grown_two F2.out.2.1 h2) (F2.out.2.2.xr F2.out.1 h2)))
  clear F2 HT2 h1 h2
  have HT3 := take8_any g [60, 33, 91, 67, 68, 65, 84, 65, 91] (l, false) w3 F3.out.1
  unfold cTake at HT3
  simp only [p3, Bool.false_eq_true, if_false] at HT3
  have HT3 := Lib.hid HT3
  clear p3
  go_wp2_with fail
  (with_reducible refine (HT3.out).mono ?_)
  rintro e w4 ⟨rfl, h1, h2⟩
  have F4 := Lib.hid (And.intro h1 (And.intro (grown_two F3.out.2.1 h2) (F3.out.2.2.xr F3.out.1 h2)))
  clear F3 HT3 h1 h2
  have HT4 := take8_any g [60, 47] (l, false) w4 F4.out.1
  unfold cTake at HT4
  simp only [p4, Bool.false_eq_true, if_false] at HT4
  have HT4 := Lib.hid HT4
  clear p4
  go_wp2_with fail
  (with_reducible refine (HT4.out).mono ?_)
  rintro e w5 ⟨rfl, h1, h2⟩
  have F5 := Lib.hid (And.intro h1 (And.intro (grown_two F4.out.2.1 h2) (F4.out.2.2.xr F4.out.1 h2)))
  clear F4 HT4 h1 h2
  have HT5 := take8_any g [60] (l, false) w5 F5.out.1
  unfold cTake at HT5
  simp only [p5, Bool.false_eq_true, if_false] at HT5
  have HT5 := Lib.hid HT5
  clear p5
  go_wp2_with fail
  (with_reducible refine (HT5.out).mono ?_)
  rintro e w6 ⟨rfl, h1, h2⟩
  have F6 := Lib.hid (And.intro h1 (And.intro (grown_two F5.out.2.1 h2) (F5.out.2.2.xr F5.out.1 h2)))
  clear F5 HT5 h1 h2
  have HUU := Lib.hid (HU.out _ F6.out.1)
  clear HU
  go_wp2_with fail
  (with_reducible refine (HUU.out).mono ?_)
  rintro e w8 ⟨rfl, h1, h2⟩
  have HRR := Lib.hid (HR.out _ (F6.out.2.2.xr F6.out.1 h2))
  clear HR
  go_wp2_with fail
  (with_reducible refine (HRR.out).mono ?_)
  rintro e w9 ⟨rfl, hb⟩
  go_wp2_with fail
  (with_reducible refine (HX.out _).mono ?_)
  rintro e w10 ⟨A, n, c, rfl, hA⟩
  go_wp2_with fail
  go_ret
  exact RetTx.up ⟨A, n, c, rfl, hA⟩ (h1.below hb h1.lt) (grown_two F6.out.2.1 (grown_two h2 (only_of_below hb _)))
theorem part8_any (g : Nat) (l : List UInt8) (w : World) (hB : XrB w g l false) (hl : l.length ≤ 100000) (hM : ML w) :
    Calls Try.prog 18 #[.pointer (some ⟨g, 0, none⟩)] w (RetPt w g (partD l)) := by
  cases p0 : Lib.hasPrefix l [60, 33, 45, 45] with
  | true =>
    have e : partD l = (match uptoD (l.drop 4) [45, 45, 62] with | none => none | some (_, b) => some ([], b) : Option (List Xtk × List UInt8)) := by
      unfold partD
      rw [if_pos p0]
      first | done | rfl | (split <;> rfl)
    rw [e]
    exact part8_0 g l w hB hl hM p0
  | false =>
    cases p1 : Lib.hasPrefix l [60, 63] with
    | true =>
      have e : partD l = (match uptoD (l.drop 2) [63, 62] with | none => none | some (_, b) => some ([], b) : Option (List Xtk × List UInt8)) := by
        unfold partD
        rw [if_neg (by rw [p0]; simp)]
        rw [if_pos p1]
        first | done | rfl | (split <;> rfl)
      rw [e]
      exact part8_1 g l w hB hl hM p0 p1
    | false =>
      cases p2 : Lib.hasPrefix l [60, 33, 68, 79, 67, 84, 89, 80, 69] with
      | true =>
        have e : partD l = (match uptoD (l.drop 9) [62] with | none => none | some (a, b) => if (91 : UInt8) ∈ a then none else some ([], b) : Option (List Xtk × List UInt8)) := by
          unfold partD
          rw [if_neg (by rw [p0]; simp)]
          rw [if_neg (by rw [p1]; simp)]
          rw [if_pos p2]
          first | done | rfl | (split <;> rfl)
        rw [e]
        exact part8_2 g l w hB hl hM p0 p1 p2
      | false =>
        cases p3 : Lib.hasPrefix l [60, 33, 91, 67, 68, 65, 84, 65, 91] with
        | true =>
          have e : partD l = (match uptoD (l.drop 9) [93, 93, 62] with | none => none | some (a, b) => some ([⟨3, [], [], a⟩], b)) := by
            unfold partD
            rw [if_neg (by rw [p0]; simp)]
            rw [if_neg (by rw [p1]; simp)]
            rw [if_neg (by rw [p2]; simp)]
            rw [if_pos p3]
            first | done | rfl | (split <;> rfl)
          rw [e]
          exact part8_3 g l w hB hl hM p0 p1 p2 p3
        | false =>
          cases p4 : Lib.hasPrefix l [60, 47] with
          | true =>
            have e : partD l = (closeD (l.drop 2)) := by
              unfold partD
              rw [if_neg (by rw [p0]; simp)]
              rw [if_neg (by rw [p1]; simp)]
              rw [if_neg (by rw [p2]; simp)]
              rw [if_neg (by rw [p3]; simp)]
              rw [if_pos p4]
              first | done | rfl | (split <;> rfl)
            rw [e]
            exact part8_4 g l w hB hl hM p0 p1 p2 p3 p4
          | false =>
            cases p5 : Lib.hasPrefix l [60] with
            | true =>
              have e : partD l = (openN (l.drop 1)) := by
                unfold partD
                rw [if_neg (by rw [p0]; simp)]
                rw [if_neg (by rw [p1]; simp)]
                rw [if_neg (by rw [p2]; simp)]
                rw [if_neg (by rw [p3]; simp)]
                rw [if_neg (by rw [p4]; simp)]
                rw [if_pos p5]
                first | done | rfl | (split <;> rfl)
              rw [e]
              exact part8_5 g l w hB hl hM p0 p1 p2 p3 p4 p5
            | false =>
              have e : partD l = (some ([⟨3, [], [], readL (l.takeWhile txtB)⟩], l.dropWhile txtB)) := by
                unfold partD
                rw [if_neg (by rw [p0]; simp)]
                rw [if_neg (by rw [p1]; simp)]
                rw [if_neg (by rw [p2]; simp)]
                rw [if_neg (by rw [p3]; simp)]
                rw [if_neg (by rw [p4]; simp)]
                rw [if_neg (by rw [p5]; simp)]
              rw [e]
              exact part8_6 g l w hB hl hM p0 p1 p2 p3 p4 p5
end Go.Proofs.Ytnagckdaleafdaa
