/-
  Dates as texts, in plain Lean: what is shown is read; a date of the mail as the code reads it is one as the document has it.
-/
import Derived.WalkKit
import Derived.Test.YtjmmgekildlckaaProg
import Derived.Test.YtjmmgekildlckaaPla
import Derived.Test.YtjmmgekildlckaaDtQ
namespace Go.Proofs.Ytjmmgekildlckaa
open Go.Nst
set_option maxRecDepth 100000
set_option linter.unusedVariables false
set_option linter.unusedSimpArgs false

/-- the last w digits of n -/
def digL : Nat → Int → List UInt8
  | 0, _ => []
  | w + 1, n => digL w (n / 10) ++ [UInt8.ofNat (48 + (n % 10).toNat)]
theorem digL_len : ∀ (w : Nat) (n : Int), (digL w n).length = w
  | 0, _ => rfl
  | w + 1, n => by simp [digL, digL_len w]
theorem digit_nat {n : Int} : (UInt8.ofNat (48 + (n % 10).toNat)).toNat = 48 + (n % 10).toNat := by
  rw [UInt8.toNat_ofNat']
  omega
theorem digL_all : ∀ (w : Nat) (n : Int), (digL w n).all digB = true
  | 0, _ => rfl
  | w + 1, n => by
    simp only [digL, List.all_append, digL_all w, Bool.true_and, List.all_cons, List.all_nil, Bool.and_true]
    unfold digB
    rw [digit_nat]
    simp
    omega
theorem numL_dig : ∀ (w : Nat) (n : Int), 0 ≤ n → n < 10 ^ w → numL (digL w n) = n
  | 0, n, h0, h1 => by simp at h1; simp [digL, numL]; omega
  | w + 1, n, h0, h1 => by
    rw [Int.pow_succ] at h1
    rw [digL, numL_snoc, numL_dig w (n / 10) (by omega) (by omega), digit_nat]
    omega
def showT (x : Dt) : List UInt8 := digL 4 x.y ++ 45 :: (digL 2 x.m ++ 45 :: (digL 2 x.d ++ 84 :: (digL 2 x.h ++ 58 :: (digL 2 x.mi ++ 58 :: (digL 2 x.s ++ [90])))))
/-- what is shown is read -/
theorem web_show {x : Dt} (h : x.ok = true) : webC (showT x) = some x.mom := by
  obtain ⟨y0, y1, m0, m1⟩ := ok_ym h
  have hx := (ok_iff x).1 h
  have hd := (days_pos y0 y1 m0 m1).2
  have w1 : web1 (showT x) = (x.y, ⟨45 :: (digL 2 x.m ++ 45 :: (digL 2 x.d ++ 84 :: (digL 2 x.h ++ 58 :: (digL 2 x.mi ++ 58 :: (digL 2 x.s ++ [90]))))), false⟩) := by
    unfold web1 showT
    rw [dig_of (digL_len 4 _) (digL_all 4 _), numL_dig 4 _ (by omega) (by omega)]
  have w2 : web2 (showT x) = (x.m, ⟨45 :: (digL 2 x.d ++ 84 :: (digL 2 x.h ++ 58 :: (digL 2 x.mi ++ 58 :: (digL 2 x.s ++ [90])))), false⟩) := by
    unfold web2
    rw [w1, sign_of (by decide)]
    simp only
    rw [dig_of (digL_len 2 _) (digL_all 2 _), numL_dig 2 _ (by omega) (by omega)]
  have w3 : web3 (showT x) = (x.d, ⟨84 :: (digL 2 x.h ++ 58 :: (digL 2 x.mi ++ 58 :: (digL 2 x.s ++ [90]))), false⟩) := by
    unfold web3
    rw [w2, sign_of (by decide)]
    simp only
    rw [dig_of (digL_len 2 _) (digL_all 2 _), numL_dig 2 _ (by omega) (by omega)]
  have w4 : web4 (showT x) = (x.h, ⟨58 :: (digL 2 x.mi ++ 58 :: (digL 2 x.s ++ [90])), false⟩) := by
    unfold web4
    rw [w3, sign_of (by decide)]
    simp only
    rw [dig_of (digL_len 2 _) (digL_all 2 _), numL_dig 2 _ (by omega) (by omega)]
  have w5 : web5 (showT x) = (x.mi, ⟨58 :: (digL 2 x.s ++ [90]), false⟩) := by
    unfold web5
    rw [w4, sign_of (by decide)]
    simp only
    rw [dig_of (digL_len 2 _) (digL_all 2 _), numL_dig 2 _ (by omega) (by omega)]
  have w6 : web6 (showT x) = (x.s, ⟨[90], false⟩) := by
    unfold web6
    rw [w5, sign_of (by decide)]
    simp only
    rw [dig_of (digL_len 2 _) (digL_all 2 _), numL_dig 2 _ (by omega) (by omega)]
  have hp : rdPoint ⟨[90], false⟩ = ⟨[90], false⟩ := by decide
  have hz : rdZone ⟨[90], false⟩ = (0, ⟨[], false⟩) := by decide
  unfold webC
  rw [w1, w2, w3, w4, w5, w6]
  simp only
  rw [hp, hz]
  unfold toldC toldR
  have hm := mom_bounds h
  have e0 : ∀ z : Int, z - 0 = z := fun z => by omega
  simp only [e0, h, hm]
  rfl

/-! ### the mail -/
def splitL (by_ : UInt8) : List UInt8 → List (List UInt8)
  | [] => [[]]
  | c :: t => if c = by_ then [] :: splitL by_ t else match splitL by_ t with
    | [] => [[c]]
    | p :: ps => (c :: p) :: ps
theorem split_ne (b : UInt8) : ∀ l : List UInt8, splitL b l ≠ []
  | [] => by simp [splitL]
  | c :: t => by
    simp only [splitL]
    split
    · simp
    · split <;> simp
theorem split_at {b : UInt8} : ∀ {p : List UInt8} (t : List UInt8), (∀ c ∈ p, c ≠ b) → splitL b (p ++ b :: t) = p :: splitL b t
  | [], t, _ => by simp [splitL]
  | c :: p, t, h => by
    have hc : c ≠ b := h c (by simp)
    rw [List.cons_append, splitL, if_neg hc, split_at t (fun x hx => h x (by simp [hx]))]
theorem split_none {b : UInt8} : ∀ {p : List UInt8}, (∀ c ∈ p, c ≠ b) → splitL b p = [p]
  | [], _ => rfl
  | c :: p, h => by
    have hc : c ≠ b := h c (by simp)
    rw [splitL, if_neg hc, split_none (fun x hx => h x (by simp [hx]))]
/-- the text of its pieces -/
def joinL (b : UInt8) : List (List UInt8) → List UInt8
  | [] => []
  | [p] => p
  | p :: q :: r => p ++ b :: joinL b (q :: r)
theorem join_split (b : UInt8) : ∀ l : List UInt8, joinL b (splitL b l) = l
  | [] => rfl
  | c :: t => by
    have ih := join_split b t
    simp only [splitL]
    by_cases hc : c = b
    · rw [if_pos hc]
      cases hs : splitL b t with
      | nil => exact absurd hs (split_ne b t)
      | cons p ps => rw [hs] at ih; rw [joinL, ih, hc]; rfl
    · rw [if_neg hc]
      cases hs : splitL b t with
      | nil => exact absurd hs (split_ne b t)
      | cons p ps =>
        rw [hs] at ih
        cases ps with
        | nil => simp only [joinL] at ih ⊢; rw [ih]
        | cons q r => simp only [joinL] at ih ⊢; rw [← ih]; rfl
def namesM : List (List UInt8) := [[74, 97, 110], [70, 101, 98], [77, 97, 114], [65, 112, 114], [77, 97, 121], [74, 117, 110], [74, 117, 108], [65, 117, 103], [83, 101, 112], [79, 99, 116], [78, 111, 118], [68, 101, 99]]
def namesW : List (List UInt8) := [[77, 111, 110, 44], [84, 117, 101, 44], [87, 101, 100, 44], [84, 104, 117, 44], [70, 114, 105, 44], [83, 97, 116, 44], [83, 117, 110, 44]]
/-- a word's place; below 0: it is none -/
def indexL : List (List UInt8) → List UInt8 → Int
  | [], _ => -1
  | x :: l, s => if x = s then 0 else if indexL l s < 0 then -1 else indexL l s + 1
/-- hours of a zone by its name -/
def zoneN (s : List UInt8) : Option Int :=
  if s = [71, 77, 84] ∨ s = [85, 84] ∨ s = [85, 84, 67] ∨ s = [90] then some 0
  else if s = [69, 68, 84] then some (-14400)
  else if s = [69, 83, 84] ∨ s = [67, 68, 84] then some (-18000)
  else if s = [67, 83, 84] ∨ s = [77, 68, 84] then some (-21600)
  else if s = [77, 83, 84] ∨ s = [80, 68, 84] then some (-25200)
  else if s = [80, 83, 84] then some (-28800)
  else none
/-- a word read whole: what is read, and whether it is bad -/
def partB (r : RD) : Bool := r.bad || !r.l.isEmpty
def rdYear (r : RD) : Int × RD := if r.l.length ≠ 2 then rdDig 4 r else (if 50 ≤ (rdDig 2 r).1 then 1900 + (rdDig 2 r).1 else 2000 + (rdDig 2 r).1, (rdDig 2 r).2)
def clk1 (r : RD) : Int × RD := rdDig 2 r
def clk2 (r : RD) : Int × RD := rdDig 2 (rdSign [58] (clk1 r).2).2
def clk3 (r : RD) : Int × RD := if (clk2 r).2.l = [] then (0, (clk2 r).2) else rdDig 2 (rdSign [58] (clk2 r).2).2
def rdClock (r : RD) : Int × RD := (3600 * (clk1 r).1 + 60 * (clk2 r).1 + (clk3 r).1, ⟨(clk3 r).2.l, (clk3 r).2.bad || (decide (23 < (clk1 r).1) || decide (59 < (clk2 r).1) || decide (59 < (clk3 r).1))⟩)
def zoneC (e : List UInt8) : Int × Bool := match zoneN e with
  | some z => (z, false)
  | none => ((rdOff false ⟨e, false⟩).1, partB (rdOff false ⟨e, false⟩).2)
def mail5C : List (List UInt8) → Option Int
  | [a, b, c, d, e] =>
    if 1 ≤ a.length ∧ a.length ≤ 2 then
      toldC ⟨[], partB (rdDig a.length ⟨a, false⟩).2 || partB (rdYear ⟨c, false⟩).2 || partB (rdClock ⟨d, false⟩).2 || (zoneC e).2⟩
        ⟨(rdYear ⟨c, false⟩).1, indexL namesM b + 1, (rdDig a.length ⟨a, false⟩).1, (rdClock ⟨d, false⟩).1 / 3600, (rdClock ⟨d, false⟩).1 / 60 % 60, (rdClock ⟨d, false⟩).1 % 60⟩ (zoneC e).1
    else none
  | _ => none
def weekW (w : List (List UInt8)) : List (List UInt8) := if w.length = 6 ∧ 0 ≤ indexL namesW (w.headD []) then w.tail else w
def mailC (l : List UInt8) : Option Int := mail5C (weekW (splitL 32 l))
/-- as the document has it -/
def yearR (c : List UInt8) : Int := if c.length = 2 ∧ 50 ≤ numR c then numR c + 1900 else if c.length = 2 ∧ 0 ≤ numR c then numR c + 2000 else numR c
def zoneM (e : List UInt8) : Option Int := match zoneN e with
  | some z => some z
  | none => if e.length ≠ 5 then none else zoneR (e.headD 0) ((e.drop 1).take 2) (e.drop 3)
def mail5R : List (List UInt8) → Option Int
  | [a, b, c, d, e] =>
    if 2 < a.length ∨ (c.length ≠ 4 ∧ c.length ≠ 2) then none
    else if ((splitL 58 d).length ≠ 2 ∧ (splitL 58 d).length ≠ 3) ∨ (∃ p ∈ splitL 58 d, p.length ≠ 2) then none
    else match zoneM e with
      | none => none
      | some z => toldR ⟨yearR c, 1 + indexL namesM b, numR a, numR ((splitL 58 d).getD 0 []), numR ((splitL 58 d).getD 1 []), if (splitL 58 d).length = 3 then numR ((splitL 58 d).getD 2 []) else 0⟩ z
  | _ => none
def mailR (l : List UInt8) : Option Int := mail5R (weekW (splitL 32 l))
theorem off_len {r : RD} (h : partB (rdOff false r).2 = false) : r.l.length = 5 ∧ r.bad = false := by
  unfold partB at h
  simp only [Bool.or_eq_false_iff, Bool.not_eq_false', List.isEmpty_iff] at h
  obtain ⟨hb, hl⟩ := h
  unfold rdOff at hb hl
  simp only [Bool.or_eq_false_iff] at hb hl
  have q6 : rdColon false (rdDig 2 (rdSign [43, 45] r).2).2 = (rdDig 2 (rdSign [43, 45] r).2).2 := rfl
  rw [q6] at hb hl
  have q1 := dig_len hb.1
  have q4 := dig_len q1.2.2
  have q5 := sign_len q4.2.2
  have q7 := congrArg List.length hl
  rw [List.length_nil] at q7
  exact ⟨by omega, q5.2.2⟩
theorem part_of {z : Int} {b : Bool} {d : Dt} (h : b = true) : toldC ⟨[], b⟩ d z = none := told_bad h
/-- the zone of the mail -/
theorem zone_mail (e : List UInt8) : (zoneM e = none ∧ (zoneC e).2 = true) ∨ (zoneC e).2 = false ∧ zoneM e = some (zoneC e).1 := by
  unfold zoneM zoneC
  cases hz : zoneN e with
  | some z => exact .inr ⟨rfl, rfl⟩
  | none =>
    simp only
    by_cases h5 : e.length = 5
    · obtain ⟨a, b1, b2, d1, d2, rfl⟩ : ∃ a b1 b2 d1 d2, e = [a, b1, b2, d1, d2] := by
        match e, h5 with
        | [a, b1, b2, d1, d2], _ => exact ⟨a, b1, b2, d1, d2, rfl⟩
      rw [if_neg (by simp)]
      simp only [List.headD_cons, List.drop_succ_cons, List.drop_zero, List.take_succ_cons, List.take_zero]
      by_cases ha : ([43, 45] : List UInt8).contains a = true
      · have e1 := sign_of (t := [b1, b2, d1, d2]) (b := false) ha
        have ha2 : ¬ (a ≠ 43 ∧ a ≠ 45) := by
          rintro ⟨q1, q2⟩
          simp [q1, q2] at ha
        by_cases hb : [b1, b2].all digB = true
        · have e2 := dig_of (w := 2) (l := [b1, b2]) (t := [d1, d2]) (b := false) rfl hb
          by_cases hd : [d1, d2].all digB = true
          · have e4 := dig_of (w := 2) (l := [d1, d2]) (t := []) (b := false) rfl hd
            have n1 := num_pos hb (by simp) (by simp)
            have n2 := num_pos hd (by simp) (by simp)
            have i1 := numL_in hb
            have i2 := numL_in hd
            simp only [List.cons_append, List.nil_append] at e2 e4
            unfold rdOff rdColon partB
            simp only [e1, e2, e4, Bool.false_eq_true, if_false]
            unfold zoneR
            rw [n1, n2]
            by_cases hr : 23 < numL [b1, b2] ∨ 59 < numL [d1, d2]
            · rw [if_pos (by rcases hr with hr | hr <;> simp [hr])]
              exact .inl ⟨rfl, by rcases hr with hr | hr <;> simp [hr]⟩
            · have hr1 : ¬ 23 < numL [b1, b2] := fun q => hr (.inl q)
              have hr2 : ¬ 59 < numL [d1, d2] := fun q => hr (.inr q)
              rw [if_neg (by
                rintro (q | q | q | q | q | q | q)
                · exact ha2 q
                · exact q rfl
                · exact q rfl
                · omega
                · omega
                · omega
                · omega)]
              exact .inr ⟨by simp [hr1, hr2], rfl⟩
          · have e4 := dig_not (w := 2) (l := [d1, d2]) (t := []) (b := false) rfl (all_false hd)
            have n2 := num_neg (all_false hd)
            simp only [List.cons_append, List.nil_append] at e2 e4
            refine .inl ⟨by unfold zoneR; rw [n2, if_pos (by omega)], ?_⟩
            unfold rdOff rdColon partB
            simp only [e1, e2, Bool.false_eq_true, if_false, e4, Bool.true_or]
        · have e2 := dig_not (w := 2) (l := [b1, b2]) (t := [d1, d2]) (b := false) rfl (all_false hb)
          have n1 := num_neg (all_false hb)
          simp only [List.cons_append, List.nil_append] at e2
          refine .inl ⟨by unfold zoneR; rw [n1, if_pos (by omega)], ?_⟩
          unfold rdOff partB
          simp only [e1]
          rw [dig_bad (colon_bad e2), Bool.true_or, Bool.true_or]
      · have e1 := sign_not (t := [b1, b2, d1, d2]) (b := false) (cont_false ha)
        refine .inl ⟨?_, ?_⟩
        · unfold zoneR
          rw [if_pos (.inl (by have := cont_false ha; simp at this; exact this))]
        · unfold rdOff partB
          simp only
          rw [dig_bad (colon_bad (dig_bad e1)), Bool.true_or, Bool.true_or]
    · rw [if_pos h5]
      refine .inl ⟨rfl, ?_⟩
      cases hh : partB (rdOff false ⟨e, false⟩).2 with
      | true => rfl
      | false => exact absurd (off_len hh).1 h5
theorem dig_good {w : Nat} {r : RD} (h : (rdDig w r).2.bad = false) : ∃ p t, r.l = p ++ t ∧ p.length = w ∧ p.all digB = true ∧ rdDig w r = (numL p, ⟨t, false⟩) := by
  obtain ⟨hl, _, hb⟩ := dig_len h
  obtain ⟨l, b⟩ := r
  simp only at hl hb
  subst hb
  have e : l = l.take w ++ l.drop w := (List.take_append_drop w l).symm
  have hw : (l.take w).length = w := by rw [List.length_take]; omega
  cases ha : (l.take w).all digB with
  | true => exact ⟨l.take w, l.drop w, e, hw, ha, by have q := dig_of (t := l.drop w) (b := false) hw ha; rw [← e] at q; exact q⟩
  | false =>
    have := dig_not (w := w) (l := l.take w) (t := l.drop w) (b := false) hw ha
    rw [← e] at this
    rw [this] at h
    cases h
theorem sign_good {s : List UInt8} {r : RD} (h : (rdSign s r).2.bad = false) : ∃ c t, r.l = c :: t ∧ s.contains c = true ∧ rdSign s r = (c, ⟨t, false⟩) := by
  obtain ⟨hl, _, hb⟩ := sign_len h
  obtain ⟨l, b⟩ := r
  simp only at hl hb
  subst hb
  obtain ⟨c, t, rfl⟩ := len_cons (l := l) (by omega)
  cases hc : s.contains c with
  | true => exact ⟨c, t, rfl, hc, sign_of hc⟩
  | false =>
    have := sign_not (s := s) (c := c) (t := t) (b := false) hc
    rw [this] at h
    cases h
theorem dig_58 {p : List UInt8} (h : p.all digB = true) : ∀ c ∈ p, c ≠ 58 := by
  intro c hc e
  have := List.all_eq_true.1 h c hc
  subst e
  exact absurd this (by decide)
def clkR (d : List UInt8) : Option (Int × Int × Int) :=
  if ((splitL 58 d).length ≠ 2 ∧ (splitL 58 d).length ≠ 3) ∨ (∃ p ∈ splitL 58 d, p.length ≠ 2) then none
  else some (numR ((splitL 58 d).getD 0 []), numR ((splitL 58 d).getD 1 []), if (splitL 58 d).length = 3 then numR ((splitL 58 d).getD 2 []) else 0)
def clkOk (x : Int × Int × Int) : Prop := 0 ≤ x.1 ∧ x.1 ≤ 23 ∧ 0 ≤ x.2.1 ∧ x.2.1 ≤ 59 ∧ 0 ≤ x.2.2 ∧ x.2.2 ≤ 59
theorem clkR_two {d p q : List UInt8} (h : splitL 58 d = [p, q]) (hp : p.length = 2) (hq : q.length = 2) : clkR d = some (numR p, numR q, 0) := by
  unfold clkR
  rw [h, if_neg (by
    rintro (⟨h1, _⟩ | ⟨x, hx, h2⟩)
    · exact h1 rfl
    · simp only [List.mem_cons, List.not_mem_nil, or_false] at hx
      rcases hx with rfl | rfl
      · exact h2 hp
      · exact h2 hq)]
  rfl
theorem clkR_three {d p q r : List UInt8} (h : splitL 58 d = [p, q, r]) (hp : p.length = 2) (hq : q.length = 2) (hr : r.length = 2) : clkR d = some (numR p, numR q, numR r) := by
  unfold clkR
  rw [h, if_neg (by
    rintro (⟨_, h1⟩ | ⟨x, hx, h2⟩)
    · exact h1 rfl
    · simp only [List.mem_cons, List.not_mem_nil, or_false] at hx
      rcases hx with rfl | rfl | rfl
      · exact h2 hp
      · exact h2 hq
      · exact h2 hr)]
  rfl
theorem clk3_bad {r : RD} (h : (clk2 r).2.bad = true) : (clk3 r).2.bad = true := by
  unfold clk3
  split
  · exact h
  · exact dig_bad (sign_bad h)
theorem clock_bad {r : RD} (h : (clk3 r).2.bad = true) : partB (rdClock r).2 = true := by
  unfold partB rdClock
  simp only [h, Bool.true_or]
theorem clock_two (p q : List UInt8) (hp : p.length = 2) (hq : q.length = 2) :
    (partB (rdClock ⟨p ++ 58 :: q, false⟩).2 = false ∧ (numR p, numR q, (0 : Int)) = ((rdClock ⟨p ++ 58 :: q, false⟩).1 / 3600, (rdClock ⟨p ++ 58 :: q, false⟩).1 / 60 % 60, (rdClock ⟨p ++ 58 :: q, false⟩).1 % 60)) ∨ (partB (rdClock ⟨p ++ 58 :: q, false⟩).2 = true ∧ ¬ clkOk (numR p, numR q, 0)) := by
  by_cases h1 : p.all digB = true
  · have c1 : clk1 ⟨p ++ 58 :: q, false⟩ = (numL p, ⟨58 :: q, false⟩) := dig_of hp h1
    by_cases h2 : q.all digB = true
    · have c2 : clk2 ⟨p ++ 58 :: q, false⟩ = (numL q, ⟨[], false⟩) := by
        unfold clk2
        rw [c1, sign_of (by decide)]
        have := dig_of (w := 2) (l := q) (t := []) (b := false) hq h2
        rw [List.append_nil] at this
        exact this
      have c3 : clk3 ⟨p ++ 58 :: q, false⟩ = (0, ⟨[], false⟩) := by
        unfold clk3
        rw [c2, if_pos rfl]
      have i1 := numL_in h1
      have i2 := numL_in h2
      rw [hp] at i1
      rw [hq] at i2
      unfold partB rdClock clkOk
      rw [c1, c2, c3, num_pos h1 (by omega) (by omega), num_pos h2 (by omega) (by omega)]
      by_cases hr : 23 < numL p ∨ 59 < numL q
      · exact .inr ⟨by rcases hr with hr | hr <;> simp [hr], by simp only; omega⟩
      · have hr1 : ¬ 23 < numL p := fun x => hr (.inl x)
        have hr2 : ¬ 59 < numL q := fun x => hr (.inr x)
        refine .inl ⟨by simp [hr1, hr2], ?_⟩
        simp only [Prod.mk.injEq]
        omega
    · have b2 : (clk2 ⟨p ++ 58 :: q, false⟩).2.bad = true := by
        unfold clk2
        rw [c1, sign_of (by decide)]
        have := dig_not (w := 2) (l := q) (t := []) (b := false) hq (all_false h2)
        rw [List.append_nil] at this
        exact this
      refine .inr ⟨clock_bad (clk3_bad b2), ?_⟩
      unfold clkOk
      rw [num_neg (all_false h2)]
      simp only
      omega
  · have b1 : (clk1 ⟨p ++ 58 :: q, false⟩).2.bad = true := dig_not hp (all_false h1)
    have b2 : (clk2 ⟨p ++ 58 :: q, false⟩).2.bad = true := dig_bad (sign_bad b1)
    refine .inr ⟨clock_bad (clk3_bad b2), ?_⟩
    unfold clkOk
    rw [num_neg (all_false h1)]
    simp only
    omega
theorem clock_three (p q r : List UInt8) (hp : p.length = 2) (hq : q.length = 2) (hr : r.length = 2) :
    (partB (rdClock ⟨p ++ 58 :: (q ++ 58 :: r), false⟩).2 = false ∧ (numR p, numR q, numR r) = ((rdClock ⟨p ++ 58 :: (q ++ 58 :: r), false⟩).1 / 3600, (rdClock ⟨p ++ 58 :: (q ++ 58 :: r), false⟩).1 / 60 % 60, (rdClock ⟨p ++ 58 :: (q ++ 58 :: r), false⟩).1 % 60)) ∨ (partB (rdClock ⟨p ++ 58 :: (q ++ 58 :: r), false⟩).2 = true ∧ ¬ clkOk (numR p, numR q, numR r)) := by
  by_cases h1 : p.all digB = true
  · have c1 : clk1 ⟨p ++ 58 :: (q ++ 58 :: r), false⟩ = (numL p, ⟨58 :: (q ++ 58 :: r), false⟩) := dig_of hp h1
    by_cases h2 : q.all digB = true
    · have c2 : clk2 ⟨p ++ 58 :: (q ++ 58 :: r), false⟩ = (numL q, ⟨58 :: r, false⟩) := by
        unfold clk2
        rw [c1, sign_of (by decide)]
        exact dig_of (w := 2) (l := q) (t := 58 :: r) (b := false) hq h2
      by_cases h3 : r.all digB = true
      · have c3 : clk3 ⟨p ++ 58 :: (q ++ 58 :: r), false⟩ = (numL r, ⟨[], false⟩) := by
          unfold clk3
          rw [c2, if_neg (by simp), sign_of (by decide)]
          have := dig_of (w := 2) (l := r) (t := []) (b := false) hr h3
          rw [List.append_nil] at this
          exact this
        have i1 := numL_in h1
        have i2 := numL_in h2
        have i3 := numL_in h3
        rw [hp] at i1
        rw [hq] at i2
        rw [hr] at i3
        unfold partB rdClock clkOk
        rw [c1, c2, c3, num_pos h1 (by omega) (by omega), num_pos h2 (by omega) (by omega), num_pos h3 (by omega) (by omega)]
        by_cases hh : 23 < numL p ∨ 59 < numL q ∨ 59 < numL r
        · exact .inr ⟨by rcases hh with hh | hh | hh <;> simp [hh], by simp only; omega⟩
        · have hr1 : ¬ 23 < numL p := fun x => hh (.inl x)
          have hr2 : ¬ 59 < numL q := fun x => hh (.inr (.inl x))
          have hr3 : ¬ 59 < numL r := fun x => hh (.inr (.inr x))
          refine .inl ⟨by simp [hr1, hr2, hr3], ?_⟩
          simp only [Prod.mk.injEq]
          omega
      · have b3 : (clk3 ⟨p ++ 58 :: (q ++ 58 :: r), false⟩).2.bad = true := by
          unfold clk3
          rw [c2, if_neg (by simp), sign_of (by decide)]
          have := dig_not (w := 2) (l := r) (t := []) (b := false) hr (all_false h3)
          rw [List.append_nil] at this
          exact this
        refine .inr ⟨clock_bad b3, ?_⟩
        unfold clkOk
        rw [num_neg (all_false h3)]
        simp only
        omega
    · have b2 : (clk2 ⟨p ++ 58 :: (q ++ 58 :: r), false⟩).2.bad = true := by
        unfold clk2
        rw [c1, sign_of (by decide)]
        exact dig_not (w := 2) (l := q) (t := 58 :: r) (b := false) hq (all_false h2)
      refine .inr ⟨clock_bad (clk3_bad b2), ?_⟩
      unfold clkOk
      rw [num_neg (all_false h2)]
      simp only
      omega
  · have b1 : (clk1 ⟨p ++ 58 :: (q ++ 58 :: r), false⟩).2.bad = true := dig_not hp (all_false h1)
    have b2 : (clk2 ⟨p ++ 58 :: (q ++ 58 :: r), false⟩).2.bad = true := dig_bad (sign_bad b1)
    refine .inr ⟨clock_bad (clk3_bad b2), ?_⟩
    unfold clkOk
    rw [num_neg (all_false h1)]
    simp only
    omega
/-- a time that is read well has a form -/
theorem clock_form {d : List UInt8} (h : partB (rdClock ⟨d, false⟩).2 = false) : (∃ p q, splitL 58 d = [p, q] ∧ p.length = 2 ∧ q.length = 2) ∨ ∃ p q r, splitL 58 d = [p, q, r] ∧ p.length = 2 ∧ q.length = 2 ∧ r.length = 2 := by
  unfold partB rdClock at h
  simp only [Bool.or_eq_false_iff, Bool.not_eq_false', List.isEmpty_iff] at h
  obtain ⟨⟨h3, _⟩, hl⟩ := h
  have h2 : (clk2 ⟨d, false⟩).2.bad = false := by
    cases hh : (clk2 ⟨d, false⟩).2.bad with
    | false => rfl
    | true => rw [clk3_bad hh] at h3; cases h3
  unfold clk3 at h3 hl
  unfold clk2 at h2
  obtain ⟨q, t2, e2, q1, q2, q3⟩ := dig_good h2
  have s2 : (rdSign [58] (clk1 ⟨d, false⟩).2).2.bad = false := (dig_len h2).2.2
  obtain ⟨c, t1, e1, c1, c2⟩ := sign_good s2
  have s1 : (clk1 ⟨d, false⟩).2.bad = false := (sign_len s2).2.2
  unfold clk1 at s1 e1
  obtain ⟨p, t0, e0, p1, p2, p3⟩ := dig_good s1
  have ec : c = 58 := by simpa using c1
  subst ec
  rw [p3] at e1
  rw [c2] at e2
  simp only at e0 e1 e2
  subst e1 e2
  have g2 : clk2 ⟨d, false⟩ = (numL q, ⟨t2, false⟩) := q3
  rw [g2] at h3 hl
  simp only at h3 hl
  have f1 := split_at (b := 58) (q ++ t2) (dig_58 p2)
  by_cases ht : t2 = []
  · subst ht
    refine .inl ⟨p, q, ?_, p1, q1⟩
    rw [e0, f1, List.append_nil, split_none (dig_58 q2)]
  · rw [if_neg ht] at h3 hl
    obtain ⟨r, t4, e4, r1, r2, r3⟩ := dig_good h3
    have s4 : (rdSign [58] ⟨t2, false⟩).2.bad = false := (dig_len h3).2.2
    obtain ⟨c', t3, e3, c3, c4⟩ := sign_good s4
    have ec : c' = 58 := by simpa using c3
    subst ec
    rw [c4] at e4
    rw [r3] at hl
    simp only at e3 e4 hl
    subst hl e4 e3
    refine .inr ⟨p, q, r, ?_, p1, q1, r1⟩
    rw [e0, f1, split_at _ (dig_58 q2), List.append_nil, split_none (dig_58 r2)]
theorem clock_same (d : List UInt8) : (partB (rdClock ⟨d, false⟩).2 = false ∧ clkR d = some ((rdClock ⟨d, false⟩).1 / 3600, (rdClock ⟨d, false⟩).1 / 60 % 60, (rdClock ⟨d, false⟩).1 % 60)) ∨ (partB (rdClock ⟨d, false⟩).2 = true ∧ ∀ x, clkR d = some x → ¬ clkOk x) := by
  have hj := join_split 58 d
  by_cases h2 : ∃ p q, splitL 58 d = [p, q] ∧ p.length = 2 ∧ q.length = 2
  · obtain ⟨p, q, hs, hp, hq⟩ := h2
    rw [hs] at hj
    simp only [joinL] at hj
    have hR := clkR_two hs hp hq
    rw [hR, ← hj]
    rcases clock_two p q hp hq with ⟨a, b⟩ | ⟨a, b⟩
    · exact .inl ⟨a, by rw [b]⟩
    · refine .inr ⟨a, fun x hx => ?_⟩
      injection hx with hx
      rw [← hx]
      exact b
  · by_cases h3 : ∃ p q r, splitL 58 d = [p, q, r] ∧ p.length = 2 ∧ q.length = 2 ∧ r.length = 2
    · obtain ⟨p, q, r, hs, hp, hq, hr⟩ := h3
      rw [hs] at hj
      simp only [joinL] at hj
      have hR := clkR_three hs hp hq hr
      rw [hR, ← hj]
      rcases clock_three p q r hp hq hr with ⟨a, b⟩ | ⟨a, b⟩
      · exact .inl ⟨a, by rw [b]⟩
      · refine .inr ⟨a, fun x hx => ?_⟩
        injection hx with hx
        rw [← hx]
        exact b
    · refine .inr ⟨?_, ?_⟩
      · cases hh : partB (rdClock ⟨d, false⟩).2 with
        | true => rfl
        | false =>
          rcases clock_form hh with hf | hf
          · exact absurd hf h2
          · exact absurd hf h3
      · intro x hx
        exfalso
        unfold clkR at hx
        split at hx
        · cases hx
        · rename_i hn
          cases hs : splitL 58 d with
          | nil => exact absurd hs (split_ne 58 d)
          | cons p ps =>
            rw [hs] at hn
            have hp : p.length = 2 := Decidable.not_not.1 fun q => hn (.inr ⟨p, by simp, q⟩)
            cases ps with
            | nil => exact hn (.inl ⟨by simp, by simp⟩)
            | cons q qs =>
              have hq : q.length = 2 := Decidable.not_not.1 fun z => hn (.inr ⟨q, by simp, z⟩)
              cases qs with
              | nil => exact h2 ⟨p, q, hs, hp, hq⟩
              | cons r rs =>
                have hr : r.length = 2 := Decidable.not_not.1 fun z => hn (.inr ⟨r, by simp, z⟩)
                cases rs with
                | nil => exact h3 ⟨p, q, r, hs, hp, hq, hr⟩
                | cons s ss => exact hn (.inl ⟨by simp, by simp⟩)
theorem year_same (c : List UInt8) : (partB (rdYear ⟨c, false⟩).2 = false ∧ (c.length = 4 ∨ c.length = 2) ∧ yearR c = (rdYear ⟨c, false⟩).1) ∨ (partB (rdYear ⟨c, false⟩).2 = true ∧ ((c.length ≠ 4 ∧ c.length ≠ 2) ∨ yearR c = -1)) := by
  unfold rdYear
  simp only
  by_cases h2 : c.length = 2
  · rw [if_neg (by omega)]
    by_cases hd : c.all digB = true
    · have e := dig_of (w := 2) (l := c) (t := []) (b := false) h2 hd
      rw [List.append_nil] at e
      have hn := num_pos hd (by omega) (by omega)
      have hi := (numL_in hd).1
      rw [e]
      refine .inl ⟨rfl, .inr h2, ?_⟩
      unfold yearR
      rw [hn]
      by_cases h5 : 50 ≤ numL c
      · rw [if_pos ⟨h2, h5⟩, if_pos h5]; omega
      · rw [if_neg (by omega), if_pos ⟨h2, hi⟩, if_neg h5]; omega
    · have e := dig_not (w := 2) (l := c) (t := []) (b := false) h2 (all_false hd)
      rw [List.append_nil] at e
      have hn := num_neg (all_false hd)
      refine .inr ⟨by unfold partB; simp only [e, Bool.true_or], .inr ?_⟩
      unfold yearR
      rw [hn, if_neg (by omega), if_neg (by omega)]
  · rw [if_pos h2]
    by_cases h4 : c.length = 4
    · by_cases hd : c.all digB = true
      · have e := dig_of (w := 4) (l := c) (t := []) (b := false) h4 hd
        rw [List.append_nil] at e
        have hn := num_pos hd (by omega) (by omega)
        rw [e]
        refine .inl ⟨rfl, .inl h4, ?_⟩
        unfold yearR
        rw [if_neg (fun q => h2 q.1), if_neg (fun q => h2 q.1), hn]
      · have e := dig_not (w := 4) (l := c) (t := []) (b := false) h4 (all_false hd)
        rw [List.append_nil] at e
        have hn := num_neg (all_false hd)
        refine .inr ⟨by unfold partB; simp only [e, Bool.true_or], .inr ?_⟩
        unfold yearR
        rw [if_neg (fun q => h2 q.1), if_neg (fun q => h2 q.1), hn]
    · refine .inr ⟨?_, .inl ⟨h4, h2⟩⟩
      cases hh : partB (rdDig 4 ⟨c, false⟩).2 with
      | true => rfl
      | false =>
        unfold partB at hh
        simp only [Bool.or_eq_false_iff, Bool.not_eq_false', List.isEmpty_iff] at hh
        have q := dig_len hh.1
        rw [hh.2] at q
        simp only [List.length_nil] at q
        omega
theorem mail5R_eq (a b c d e : List UInt8) : mail5R [a, b, c, d, e] = if 2 < a.length ∨ (c.length ≠ 4 ∧ c.length ≠ 2) then none else match clkR d with
    | none => none
    | some x => match zoneM e with
      | none => none
      | some z => toldR ⟨yearR c, 1 + indexL namesM b, numR a, x.1, x.2.1, x.2.2⟩ z := by
  unfold clkR
  simp only [mail5R]
  by_cases h1 : 2 < a.length ∨ (c.length ≠ 4 ∧ c.length ≠ 2)
  · rw [if_pos h1, if_pos h1]
  · rw [if_neg h1, if_neg h1]
    by_cases h2 : ((splitL 58 d).length ≠ 2 ∧ (splitL 58 d).length ≠ 3) ∨ (∃ p ∈ splitL 58 d, p.length ≠ 2)
    · rw [if_pos h2, if_pos h2]
    · rw [if_neg h2, if_neg h2]
theorem mail5R_bad {a b c d e : List UInt8} (h : ∀ x, clkR d = some x → (⟨yearR c, 1 + indexL namesM b, numR a, x.1, x.2.1, x.2.2⟩ : Dt).ok = false) : mail5R [a, b, c, d, e] = none := by
  rw [mail5R_eq]
  split
  · rfl
  · cases hc : clkR d with
    | none => rfl
    | some x =>
      simp only
      split
      · rfl
      · exact told_no (h x hc) _
theorem dt_clk {y m d : Int} {x : Int × Int × Int} (h : ¬ clkOk x) : (⟨y, m, d, x.1, x.2.1, x.2.2⟩ : Dt).ok = false := by
  cases hh : (⟨y, m, d, x.1, x.2.1, x.2.2⟩ : Dt).ok with
  | false => rfl
  | true =>
    exfalso
    have := (ok_iff _).1 hh
    exact h ⟨this.2.2.1, this.2.2.2.1, this.2.2.2.2.1, this.2.2.2.2.2.1, this.2.2.2.2.2.2.1, this.2.2.2.2.2.2.2⟩
theorem mail5_same (a b c d e : List UInt8) : mail5C [a, b, c, d, e] = mail5R [a, b, c, d, e] := by
  simp only [mail5C]
  by_cases hA : 1 ≤ a.length ∧ a.length ≤ 2
  · rw [if_pos hA]
    by_cases ha : a.all digB = true
    · have ea := dig_of (w := a.length) (l := a) (t := []) (b := false) rfl ha
      rw [List.append_nil] at ea
      have na := num_pos ha (by omega) (by omega)
      rcases year_same c with ⟨y1, y2, y3⟩ | ⟨y1, y2⟩
      · rcases clock_same d with ⟨c1, c2⟩ | ⟨c1, c2⟩
        · rcases zone_mail e with ⟨z1, z2⟩ | ⟨z1, z2⟩
          · rw [part_of (by rw [z2]; simp), mail5R_eq, c2, z1]
            split <;> rfl
          · rw [mail5R_eq, if_neg (by omega), c2, z2, ea, y1, c1, z1, y3, na]
            simp only
            unfold toldC partB
            simp only [Bool.not_false, Bool.and_true, List.isEmpty_nil, Bool.or_false, Bool.not_true, if_true]
            rw [show indexL namesM b + 1 = 1 + indexL namesM b by omega]
        · rw [part_of (by rw [c1]; simp), mail5R_bad fun x hx => dt_clk (c2 x hx)]
      · rw [part_of (by rw [y1]; simp)]
        rcases y2 with y2 | y2
        · rw [mail5R_eq, if_pos (.inr y2)]
        · rw [mail5R_bad fun x hx => dt_bad_y y2]
    · have hn := num_neg (all_false ha)
      have hb := dig_not (w := a.length) (l := a) (t := []) (b := false) rfl (all_false ha)
      rw [List.append_nil] at hb
      rw [part_of (by unfold partB; rw [hb]; simp), mail5R_bad fun x hx => dt_bad_o (.inl hn)]
  · rw [if_neg hA]
    by_cases h2 : 2 < a.length
    · rw [mail5R_eq, if_pos (.inl h2)]
    · have ha : a = [] := List.eq_nil_of_length_eq_zero (by omega)
      subst ha
      rw [mail5R_bad fun x hx => dt_bad_o (.inl (by decide))]
/-- a date of the mail: as the code reads it, so the document -/
theorem mail_same (l : List UInt8) : mailC l = mailR l := by
  unfold mailC mailR
  generalize weekW (splitL 32 l) = w
  match w with
  | [a, b, c, d, e] => exact mail5_same a b c d e
  | [] => rfl
  | [_] => rfl
  | [_, _] => rfl
  | [_, _, _] => rfl
  | [_, _, _, _] => rfl
  | _ :: _ :: _ :: _ :: _ :: _ :: _ => rfl
def anyC (l : List UInt8) : Option Int := match webC l with
  | some n => some n
  | none => mailC l
end Go.Proofs.Ytjmmgekildlckaa
