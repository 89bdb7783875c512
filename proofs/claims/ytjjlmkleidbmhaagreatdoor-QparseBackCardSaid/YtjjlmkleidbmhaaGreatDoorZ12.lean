/-
  Queries' texts and what they lean on, part 12: only what the claims need.
-/
import Derived.WalkKit
import Derived.Test.YtjjlmkleidbmhaaGreatDoorProg
import Derived.Test.YtjjlmkleidbmhaaGreatDoorZ03
import Derived.Test.YtjjlmkleidbmhaaGreatDoorZ11
import Derived.Lib.AtoiTie
import Derived.Lib.AtoiAllCases
section
namespace Go.Proofs.YtjjlmkleidbmhaaGreatDoor
open Go.Nst
set_option maxRecDepth 100000
set_option linter.unusedVariables false
set_option linter.unusedSimpArgs false

/-- what is left of a text; is it bad? -/
structure RD where
  l : List UInt8
  bad : Bool
deriving DecidableEq
def rdDig (w : Nat) (r : RD) : Int × RD := if r.l.length < w then (0, ⟨r.l, true⟩) else if (r.l.take w).all digB then (numL (r.l.take w), ⟨r.l.drop w, r.bad⟩) else (0, ⟨r.l, true⟩)
def rdSign (some_ : List UInt8) (r : RD) : UInt8 × RD := match r.l with
  | [] => (0, ⟨[], true⟩)
  | c :: t => if some_.contains c then (c, ⟨t, r.bad⟩) else (0, ⟨c :: t, true⟩)
def runL : List UInt8 → Nat
  | [] => 0
  | c :: t => if digB c then runL t + 1 else 0
def rdPoint (r : RD) : RD := if r.l.head? = some 46 then ⟨r.l.tail.drop (runL r.l.tail), r.bad || !(decide (1 ≤ runL r.l.tail) && decide (runL r.l.tail ≤ 9))⟩ else r
def rdColon (colon : Bool) (r : RD) : RD := if colon then (rdSign [58] r).2 else r
def offN (s : UInt8) (h m : Int) : Int := if s = 45 then -(3600 * h + 60 * m) else 3600 * h + 60 * m
def rdOff (colon : Bool) (r : RD) : Int × RD :=
  (offN (rdSign [43, 45] r).1 (rdDig 2 (rdSign [43, 45] r).2).1 (rdDig 2 (rdColon colon (rdDig 2 (rdSign [43, 45] r).2).2)).1,
    ⟨(rdDig 2 (rdColon colon (rdDig 2 (rdSign [43, 45] r).2).2)).2.l, (rdDig 2 (rdColon colon (rdDig 2 (rdSign [43, 45] r).2).2)).2.bad || (decide (23 < (rdDig 2 (rdSign [43, 45] r).2).1) || decide (59 < (rdDig 2 (rdColon colon (rdDig 2 (rdSign [43, 45] r).2).2)).1))⟩)
def rdZone (r : RD) : Int × RD := if r.l = [90] ∨ r.l = [122] then (0, ⟨[], r.bad⟩) else rdOff true r
def toldR (d : Dt) (z : Int) : Option Int := if d.ok && mayM (d.mom - z) then some (d.mom - z) else none
def toldC (r : RD) (d : Dt) (z : Int) : Option Int := if !r.bad && r.l.isEmpty then toldR d z else none
theorem told_bad {r : RD} {d : Dt} {z : Int} (h : r.bad = true) : toldC r d z = none := by unfold toldC; simp [h]
theorem dig_bad {w : Nat} {r : RD} (h : r.bad = true) : (rdDig w r).2.bad = true := by unfold rdDig; split; rfl; split <;> simp [h]
theorem sign_bad {s : List UInt8} {r : RD} (h : r.bad = true) : (rdSign s r).2.bad = true := by unfold rdSign; split; rfl; split <;> simp [h]
theorem point_bad {r : RD} (h : r.bad = true) : (rdPoint r).bad = true := by unfold rdPoint; split <;> simp [h]
theorem colon_bad {c : Bool} {r : RD} (h : r.bad = true) : (rdColon c r).bad = true := by unfold rdColon; split; exact sign_bad h; exact h
theorem off_bad {c : Bool} {r : RD} (h : r.bad = true) : (rdOff c r).2.bad = true := by unfold rdOff; simp [dig_bad (w := 2) (colon_bad (c := c) (dig_bad (w := 2) (sign_bad (s := [43, 45]) h)))]
theorem zone_bad {r : RD} (h : r.bad = true) : (rdZone r).2.bad = true := by unfold rdZone; split; exact h; exact off_bad h

/-- a date of the web, as the code reads it -/
def web1 (l : List UInt8) : Int × RD := rdDig 4 ⟨l, false⟩
def web2 (l : List UInt8) : Int × RD := rdDig 2 (rdSign [45] (web1 l).2).2
def web3 (l : List UInt8) : Int × RD := rdDig 2 (rdSign [45] (web2 l).2).2
def web4 (l : List UInt8) : Int × RD := rdDig 2 (rdSign [84, 116] (web3 l).2).2
def web5 (l : List UInt8) : Int × RD := rdDig 2 (rdSign [58] (web4 l).2).2
def web6 (l : List UInt8) : Int × RD := rdDig 2 (rdSign [58] (web5 l).2).2
def webC (l : List UInt8) : Option Int :=
  toldC (rdZone (rdPoint (web6 l).2)).2 ⟨(web1 l).1, (web2 l).1, (web3 l).1, (web4 l).1, (web5 l).1, (web6 l).1⟩ (rdZone (rdPoint (web6 l).2)).1
/-- as the document has it -/
def numR (l : List UInt8) : Int := if 1 ≤ l.length ∧ l.length ≤ 9 ∧ l.all digB = true then numL l else -1
def zoneR (s : UInt8) (h m : List UInt8) : Option Int :=
  if (s ≠ 43 ∧ s ≠ 45) ∨ h.length ≠ 2 ∨ m.length ≠ 2 ∨ numR h < 0 ∨ 23 < numR h ∨ numR m < 0 ∨ 59 < numR m then none else some (offN s (numR h) (numR m))
def restR (rest : List UInt8) : Option (List UInt8) :=
  if rest.head? = some 46 then (if 1 ≤ runL rest.tail ∧ runL rest.tail ≤ 9 then some (rest.tail.drop (runL rest.tail)) else none) else some rest
def webZ (d : Dt) (rest : List UInt8) : Option Int :=
  if rest = [90] ∨ rest = [122] then toldR d 0
  else if rest.length ≠ 6 ∨ rest[3]? ≠ some 58 then none
  else match zoneR (rest.headD 0) ((rest.drop 1).take 2) (rest.drop 4) with
    | none => none
    | some z => toldR d z
def webD (l : List UInt8) : Dt := ⟨numR (l.take 4), numR ((l.drop 5).take 2), numR ((l.drop 8).take 2), numR ((l.drop 11).take 2), numR ((l.drop 14).take 2), numR ((l.drop 17).take 2)⟩
def webR (l : List UInt8) : Option Int :=
  if l.length < 20 ∨ l[4]? ≠ some 45 ∨ l[7]? ≠ some 45 ∨ (l[10]? ≠ some 84 ∧ l[10]? ≠ some 116) ∨ l[13]? ≠ some 58 ∨ l[16]? ≠ some 58 then none
  else match restR (l.drop 19) with
    | none => none
    | some rest => webZ (webD l) rest
theorem told_no {d : Dt} (h : d.ok = false) (z : Int) : toldR d z = none := by unfold toldR; simp [h]
theorem num_neg {l : List UInt8} (h : l.all digB = false) : numR l = -1 := by
  unfold numR
  rw [if_neg]
  rintro ⟨_, _, h2⟩
  rw [h] at h2
  cases h2
theorem num_pos {l : List UInt8} (h : l.all digB = true) (h1 : 1 ≤ l.length) (h2 : l.length ≤ 9) : numR l = numL l := by
  unfold numR
  rw [if_pos ⟨h1, h2, h⟩]
theorem dig_of {w : Nat} {l t : List UInt8} {b : Bool} (hl : l.length = w) (h : l.all digB = true) : rdDig w ⟨l ++ t, b⟩ = (numL l, ⟨t, b⟩) := by
  unfold rdDig
  simp only [List.length_append]
  rw [if_neg (by omega), List.take_left' hl, if_pos h, List.drop_left' hl]
theorem dig_not {w : Nat} {l t : List UInt8} {b : Bool} (hl : l.length = w) (h : l.all digB = false) : (rdDig w ⟨l ++ t, b⟩).2.bad = true := by
  unfold rdDig
  simp only [List.length_append]
  rw [if_neg (by omega), List.take_left' hl, if_neg (by rw [h]; decide)]
theorem sign_of {s : List UInt8} {c : UInt8} {t : List UInt8} {b : Bool} (h : s.contains c = true) : rdSign s ⟨c :: t, b⟩ = (c, ⟨t, b⟩) := by
  unfold rdSign
  simp only
  rw [if_pos h]
theorem sign_not {s : List UInt8} {c : UInt8} {t : List UInt8} {b : Bool} (h : s.contains c = false) : (rdSign s ⟨c :: t, b⟩).2.bad = true := by
  unfold rdSign
  simp only
  rw [if_neg (by rw [h]; decide)]
/-- what of a text is left behind an operation that went well -/
theorem dig_len {w : Nat} {r : RD} (h : (rdDig w r).2.bad = false) : w ≤ r.l.length ∧ (rdDig w r).2.l.length = r.l.length - w ∧ r.bad = false := by
  have hb : r.bad = false := by
    cases hr : r.bad with
    | false => rfl
    | true => rw [dig_bad hr] at h; cases h
  unfold rdDig at h ⊢
  split at h
  · cases h
  · rename_i hl
    split at h
    · rename_i ha
      rw [if_neg hl, if_pos ha]
      exact ⟨by omega, by simp, hb⟩
    · cases h
theorem sign_len {s : List UInt8} {r : RD} (h : (rdSign s r).2.bad = false) : 1 ≤ r.l.length ∧ (rdSign s r).2.l.length = r.l.length - 1 ∧ r.bad = false := by
  have hb : r.bad = false := by
    cases hr : r.bad with
    | false => rfl
    | true => rw [sign_bad hr] at h; cases h
  obtain ⟨l, b⟩ := r
  cases l with
  | nil => cases h
  | cons c t =>
    unfold rdSign at h ⊢
    simp only at h ⊢ hb
    split at h
    · rename_i hc
      rw [if_pos hc]
      exact ⟨by simp, by simp, hb⟩
    · cases h
/-- the zone of the web -/
theorem zone_web (d : Dt) (rest : List UInt8) : toldC (rdZone ⟨rest, false⟩).2 d (rdZone ⟨rest, false⟩).1 = webZ d rest := by
  unfold rdZone webZ
  by_cases hz : rest = [90] ∨ rest = [122]
  · rw [if_pos hz, if_pos hz]; rfl
  · simp only
    rw [if_neg hz, if_neg hz]
    by_cases h6 : rest.length = 6
    · obtain ⟨a, b1, b2, c, d1, d2, rfl⟩ : ∃ a b1 b2 c d1 d2, rest = [a, b1, b2, c, d1, d2] := by
        match rest, h6 with
        | [a, b1, b2, c, d1, d2], _ => exact ⟨a, b1, b2, c, d1, d2, rfl⟩
      by_cases h3 : c = 58
      · subst h3
        rw [if_neg (by simp)]
        simp only [List.headD_cons, List.drop_succ_cons, List.drop_zero, List.take_succ_cons, List.take_zero]
        by_cases ha : ([43, 45] : List UInt8).contains a = true
        · have e1 := sign_of (t := [b1, b2, 58, d1, d2]) (b := false) ha
          by_cases hb : [b1, b2].all digB = true
          · have e2 := dig_of (w := 2) (l := [b1, b2]) (t := [58, d1, d2]) (b := false) rfl hb
            have e3 := sign_of (s := [58]) (c := 58) (t := [d1, d2]) (b := false) (by decide)
            by_cases hd : [d1, d2].all digB = true
            · have e4 := dig_of (w := 2) (l := [d1, d2]) (t := []) (b := false) rfl hd
              have n1 := num_pos hb (by simp) (by simp)
              have n2 := num_pos hd (by simp) (by simp)
              have i1 := numL_in hb
              have i2 := numL_in hd
              simp only [List.cons_append, List.nil_append] at e2 e4
              unfold rdOff rdColon
              simp only [e1, e2, e3, e4, if_true]
              unfold toldC zoneR
              rw [n1, n2]
              have ha2 : ¬ (a ≠ 43 ∧ a ≠ 45) := by
                rintro ⟨q1, q2⟩
                simp [q1, q2] at ha
              by_cases hr : 23 < numL [b1, b2] ∨ 59 < numL [d1, d2]
              · rw [if_neg (by rcases hr with hr | hr <;> simp [hr])]
                rw [if_pos (by rcases hr with hr | hr <;> simp [hr])]
              · have hr1 : ¬ 23 < numL [b1, b2] := fun q => hr (.inl q)
                have hr2 : ¬ 59 < numL [d1, d2] := fun q => hr (.inr q)
                rw [if_pos (by simp [hr1, hr2])]
                rw [if_neg (by
                  rintro (q | q | q | q | q | q | q)
                  · exact ha2 q
                  · exact q rfl
                  · exact q rfl
                  · omega
                  · omega
                  · omega
                  · omega)]
            · have hd' : [d1, d2].all digB = false := by simpa using hd
              have e4 := dig_not (w := 2) (l := [d1, d2]) (t := []) (b := false) rfl hd'
              have n2 := num_neg hd'
              have hzn : zoneR a [b1, b2] [d1, d2] = none := by unfold zoneR; rw [n2, if_pos (by omega)]
              rw [hzn]
              simp only [List.cons_append, List.nil_append] at e2 e4
              refine told_bad ?_
              unfold rdOff rdColon
              simp only [e1, e2, e3, if_true, e4, Bool.true_or]
          · have hb' : [b1, b2].all digB = false := by simpa using hb
            have e2 := dig_not (w := 2) (l := [b1, b2]) (t := [58, d1, d2]) (b := false) rfl hb'
            have n1 := num_neg hb'
            have hzn : zoneR a [b1, b2] [d1, d2] = none := by unfold zoneR; rw [n1, if_pos (by omega)]
            rw [hzn]
            simp only [List.cons_append, List.nil_append] at e2
            refine told_bad ?_
            unfold rdOff
            simp only [e1]
            rw [dig_bad (colon_bad e2), Bool.true_or]
        · have ha' : ([43, 45] : List UInt8).contains a = false := by simpa using ha
          have e1 := sign_not (t := [b1, b2, 58, d1, d2]) (b := false) ha'
          have hzn : zoneR a [b1, b2] [d1, d2] = none := by
            unfold zoneR
            rw [if_pos (.inl (by simp at ha'; exact ha'))]
          rw [hzn]
          refine told_bad ?_
          unfold rdOff
          simp only
          rw [dig_bad (colon_bad (dig_bad e1)), Bool.true_or]
      · rw [if_pos (.inr (by simpa using h3))]
        refine told_bad ?_
        have h3' : ([58] : List UInt8).contains c = false := by simpa using h3
        by_cases ha : ([43, 45] : List UInt8).contains a = true
        · have e1 := sign_of (t := [b1, b2, c, d1, d2]) (b := false) ha
          by_cases hb : [b1, b2].all digB = true
          · have e2 := dig_of (w := 2) (l := [b1, b2]) (t := [c, d1, d2]) (b := false) rfl hb
            have e3 := sign_not (s := [58]) (c := c) (t := [d1, d2]) (b := false) h3'
            simp only [List.cons_append, List.nil_append] at e2
            unfold rdOff rdColon
            simp only [e1, e2, if_true]
            rw [dig_bad e3, Bool.true_or]
          · have hb' : [b1, b2].all digB = false := by simpa using hb
            have e2 := dig_not (w := 2) (l := [b1, b2]) (t := [c, d1, d2]) (b := false) rfl hb'
            simp only [List.cons_append, List.nil_append] at e2
            unfold rdOff
            simp only [e1]
            rw [dig_bad (colon_bad e2), Bool.true_or]
        · have ha' : ([43, 45] : List UInt8).contains a = false := by simpa using ha
          have e1 := sign_not (t := [b1, b2, c, d1, d2]) (b := false) ha'
          unfold rdOff
          simp only
          rw [dig_bad (colon_bad (dig_bad e1)), Bool.true_or]
    · rw [if_pos (.inl h6)]
      unfold toldC
      rw [if_neg]
      intro hh
      simp only [Bool.and_eq_true, Bool.not_eq_true', List.isEmpty_iff] at hh
      obtain ⟨hb, hl⟩ := hh
      unfold rdOff at hb hl
      simp only [Bool.or_eq_false_iff] at hb hl
      have q1 := dig_len hb.1
      have q2 : (rdSign [58] (rdDig 2 (rdSign [43, 45] ⟨rest, false⟩).2).2).2.bad = false := q1.2.2
      have q3 := sign_len q2
      have q4 := dig_len q3.2.2
      have q5 := sign_len q4.2.2
      have q6 : (rdColon true (rdDig 2 (rdSign [43, 45] ⟨rest, false⟩).2).2) = (rdSign [58] (rdDig 2 (rdSign [43, 45] ⟨rest, false⟩).2).2).2 := rfl
      rw [q6] at q1 hl
      have q7 := congrArg List.length hl
      rw [List.length_nil] at q7
      simp only at q5
      omega
theorem point_web (rest : List UInt8) : (restR rest = none ∧ (rdPoint ⟨rest, false⟩).bad = true) ∨ ∃ r2, restR rest = some r2 ∧ rdPoint ⟨rest, false⟩ = ⟨r2, false⟩ := by
  unfold restR rdPoint
  by_cases hp : rest.head? = some 46
  · simp only [hp, if_true]
    by_cases h1 : 1 ≤ runL rest.tail ∧ runL rest.tail ≤ 9
    · rw [if_pos h1]
      exact .inr ⟨_, rfl, by simp [h1]⟩
    · rw [if_neg h1]
      refine .inl ⟨rfl, ?_⟩
      simp
      omega
  · simp only [hp, if_false]
    exact .inr ⟨_, rfl, rfl⟩
theorem len_cons {l : List UInt8} (h : 0 < l.length) : ∃ c t, l = c :: t := by
  cases l with
  | nil => simp at h
  | cons c t => exact ⟨c, t, rfl⟩
theorem dec19 (l : List UInt8) (h : 19 ≤ l.length) : ∃ y0 y1 y2 y3 a m0 m1 b d0 d1 c h0 h1 e i0 i1 f s0 s1 rest, l = y0 :: y1 :: y2 :: y3 :: a :: m0 :: m1 :: b :: d0 :: d1 :: c :: h0 :: h1 :: e :: i0 :: i1 :: f :: s0 :: s1 :: rest := by
  obtain ⟨x0, l1, rfl⟩ := len_cons (l := l) (by omega)
  obtain ⟨x1, l2, rfl⟩ := len_cons (l := l1) (by simp only [List.length_cons] at h; omega)
  obtain ⟨x2, l3, rfl⟩ := len_cons (l := l2) (by simp only [List.length_cons] at h; omega)
  obtain ⟨x3, l4, rfl⟩ := len_cons (l := l3) (by simp only [List.length_cons] at h; omega)
  obtain ⟨x4, l5, rfl⟩ := len_cons (l := l4) (by simp only [List.length_cons] at h; omega)
  obtain ⟨x5, l6, rfl⟩ := len_cons (l := l5) (by simp only [List.length_cons] at h; omega)
  obtain ⟨x6, l7, rfl⟩ := len_cons (l := l6) (by simp only [List.length_cons] at h; omega)
  obtain ⟨x7, l8, rfl⟩ := len_cons (l := l7) (by simp only [List.length_cons] at h; omega)
  obtain ⟨x8, l9, rfl⟩ := len_cons (l := l8) (by simp only [List.length_cons] at h; omega)
  obtain ⟨x9, l10, rfl⟩ := len_cons (l := l9) (by simp only [List.length_cons] at h; omega)
  obtain ⟨x10, l11, rfl⟩ := len_cons (l := l10) (by simp only [List.length_cons] at h; omega)
  obtain ⟨x11, l12, rfl⟩ := len_cons (l := l11) (by simp only [List.length_cons] at h; omega)
  obtain ⟨x12, l13, rfl⟩ := len_cons (l := l12) (by simp only [List.length_cons] at h; omega)
  obtain ⟨x13, l14, rfl⟩ := len_cons (l := l13) (by simp only [List.length_cons] at h; omega)
  obtain ⟨x14, l15, rfl⟩ := len_cons (l := l14) (by simp only [List.length_cons] at h; omega)
  obtain ⟨x15, l16, rfl⟩ := len_cons (l := l15) (by simp only [List.length_cons] at h; omega)
  obtain ⟨x16, l17, rfl⟩ := len_cons (l := l16) (by simp only [List.length_cons] at h; omega)
  obtain ⟨x17, l18, rfl⟩ := len_cons (l := l17) (by simp only [List.length_cons] at h; omega)
  obtain ⟨x18, l19, rfl⟩ := len_cons (l := l18) (by simp only [List.length_cons] at h; omega)
  exact ⟨x0, x1, x2, x3, x4, x5, x6, x7, x8, x9, x10, x11, x12, x13, x14, x15, x16, x17, x18, l19, rfl⟩
theorem web_bad {l : List UInt8} (h : (web6 l).2.bad = true) : webC l = none := told_bad (zone_bad (point_bad h))
theorem web_step5 {l : List UInt8} (h : (web5 l).2.bad = true) : (web6 l).2.bad = true := by unfold web6; exact dig_bad (sign_bad h)
theorem web_step4 {l : List UInt8} (h : (web4 l).2.bad = true) : (web5 l).2.bad = true := by unfold web5; exact dig_bad (sign_bad h)
theorem web_step3 {l : List UInt8} (h : (web3 l).2.bad = true) : (web4 l).2.bad = true := by unfold web4; exact dig_bad (sign_bad h)
theorem web_step2 {l : List UInt8} (h : (web2 l).2.bad = true) : (web3 l).2.bad = true := by unfold web3; exact dig_bad (sign_bad h)
theorem web_step1 {l : List UInt8} (h : (web1 l).2.bad = true) : (web2 l).2.bad = true := by unfold web2; exact dig_bad (sign_bad h)
theorem web6_bad1 {l : List UInt8} (h : (web1 l).2.bad = true) : (web6 l).2.bad = true := (web_step5 (web_step4 (web_step3 (web_step2 (web_step1 h)))))
theorem web6_bad2 {l : List UInt8} (h : (web2 l).2.bad = true) : (web6 l).2.bad = true := (web_step5 (web_step4 (web_step3 (web_step2 h))))
theorem web6_bad3 {l : List UInt8} (h : (web3 l).2.bad = true) : (web6 l).2.bad = true := (web_step5 (web_step4 (web_step3 h)))
theorem web6_bad4 {l : List UInt8} (h : (web4 l).2.bad = true) : (web6 l).2.bad = true := (web_step5 (web_step4 h))
theorem web6_bad5 {l : List UInt8} (h : (web5 l).2.bad = true) : (web6 l).2.bad = true := (web_step5 h)
theorem web_len1 {l : List UInt8} (h : (web1 l).2.bad = false) : 4 ≤ l.length ∧ (web1 l).2.l.length = l.length - 4 := by
  unfold web1 at h ⊢
  have := dig_len h
  exact ⟨this.1, this.2.1⟩
theorem web_len2 {l : List UInt8} (h : (web2 l).2.bad = false) : 7 ≤ l.length ∧ (web2 l).2.l.length = l.length - 7 := by
  unfold web2 at h ⊢
  have h1 := dig_len h
  have h2 := sign_len h1.2.2
  have h3 := web_len1 h2.2.2
  omega
theorem web_len3 {l : List UInt8} (h : (web3 l).2.bad = false) : 10 ≤ l.length ∧ (web3 l).2.l.length = l.length - 10 := by
  unfold web3 at h ⊢
  have h1 := dig_len h
  have h2 := sign_len h1.2.2
  have h3 := web_len2 h2.2.2
  omega
theorem web_len4 {l : List UInt8} (h : (web4 l).2.bad = false) : 13 ≤ l.length ∧ (web4 l).2.l.length = l.length - 13 := by
  unfold web4 at h ⊢
  have h1 := dig_len h
  have h2 := sign_len h1.2.2
  have h3 := web_len3 h2.2.2
  omega
theorem web_len5 {l : List UInt8} (h : (web5 l).2.bad = false) : 16 ≤ l.length ∧ (web5 l).2.l.length = l.length - 16 := by
  unfold web5 at h ⊢
  have h1 := dig_len h
  have h2 := sign_len h1.2.2
  have h3 := web_len4 h2.2.2
  omega
theorem web_len6 {l : List UInt8} (h : (web6 l).2.bad = false) : 19 ≤ l.length ∧ (web6 l).2.l.length = l.length - 19 := by
  unfold web6 at h ⊢
  have h1 := dig_len h
  have h2 := sign_len h1.2.2
  have h3 := web_len5 h2.2.2
  omega
theorem web6_len {l : List UInt8} (h : (web6 l).2.bad = false) : 19 ≤ l.length ∧ (web6 l).2.l.length = l.length - 19 := web_len6 h
theorem all_false {l : List UInt8} (h : ¬ l.all digB = true) : l.all digB = false := by
  cases hh : l.all digB with
  | false => rfl
  | true => exact absurd hh h
theorem cont_false {s : List UInt8} {c : UInt8} (h : ¬ s.contains c = true) : s.contains c = false := by
  cases hh : s.contains c with
  | false => rfl
  | true => exact absurd hh h
theorem dt_bad_y {y m d h mi s : Int} (hy : y = -1) : (⟨y, m, d, h, mi, s⟩ : Dt).ok = false := by
  cases hh : (⟨y, m, d, h, mi, s⟩ : Dt).ok with
  | false => rfl
  | true => have := (ok_ym hh).1; simp only at this; omega
theorem dt_bad_m {y m d h mi s : Int} (hy : m = -1) : (⟨y, m, d, h, mi, s⟩ : Dt).ok = false := by
  cases hh : (⟨y, m, d, h, mi, s⟩ : Dt).ok with
  | false => rfl
  | true => have := (ok_ym hh).2.2.1; simp only at this; omega
theorem dt_bad_o {y m d h mi s : Int} (hy : d = -1 ∨ h = -1 ∨ mi = -1 ∨ s = -1) : (⟨y, m, d, h, mi, s⟩ : Dt).ok = false := by
  cases hh : (⟨y, m, d, h, mi, s⟩ : Dt).ok with
  | false => rfl
  | true => have := (ok_iff _).1 hh; simp only at this; omega
theorem webZ_bad {d : Dt} (h : d.ok = false) (rest : List UInt8) : webZ d rest = none := by
  unfold webZ
  split
  · exact told_no h _
  · split
    · rfl
    · split
      · rfl
      · exact told_no h _
theorem webR_bad {l : List UInt8} (h : (webD l).ok = false) : webR l = none := by
  unfold webR
  split
  · rfl
  · split
    · rfl
    · exact webZ_bad h _
/-- a date of the web: as the code reads it, so the document -/
theorem web_same (l : List UInt8) : webC l = webR l := by
  by_cases h19 : l.length < 19
  · have hb : (web6 l).2.bad = true := by
      cases hh : (web6 l).2.bad with
      | true => rfl
      | false => have := web6_len hh; omega
    rw [web_bad hb]
    unfold webR
    rw [if_pos (by omega)]
  obtain ⟨y0, y1, y2, y3, a, m0, m1, b, d0, d1, c, h0, h1, e, i0, i1, f, s0, s1, rest, rfl⟩ := dec19 l (by omega)
  clear h19
  generalize hL : y0 :: y1 :: y2 :: y3 :: a :: m0 :: m1 :: b :: d0 :: d1 :: c :: h0 :: h1 :: e :: i0 :: i1 :: f :: s0 :: s1 :: rest = L
  have D : webD L = ⟨numR [y0, y1, y2, y3], numR [m0, m1], numR [d0, d1], numR [h0, h1], numR [i0, i1], numR [s0, s1]⟩ := by rw [← hL]; rfl
  have len : L.length = 19 + rest.length := by rw [← hL]; simp; omega
  have g4 : L[4]? = some a := by rw [← hL]; rfl
  have g7 : L[7]? = some b := by rw [← hL]; rfl
  have g10 : L[10]? = some c := by rw [← hL]; rfl
  have g13 : L[13]? = some e := by rw [← hL]; rfl
  have g16 : L[16]? = some f := by rw [← hL]; rfl
  have gr : L.drop 19 = rest := by rw [← hL]; rfl
  by_cases q1_ : ¬ ([y0, y1, y2, y3].all digB = true)
  · have q1 := q1_
    have n1 := num_neg (all_false q1)
    rw [web_bad (web6_bad1 (by rw [← hL]; exact dig_not (w := 4) rfl (all_false q1))), webR_bad (by rw [D]; exact dt_bad_y n1)]
  have q1 := Decidable.not_not.1 q1_
  have w1 : web1 L = (numL [y0, y1, y2, y3], ⟨a :: m0 :: m1 :: b :: d0 :: d1 :: c :: h0 :: h1 :: e :: i0 :: i1 :: f :: s0 :: s1 :: rest, false⟩) := by rw [← hL]; exact dig_of (w := 4) rfl q1
  by_cases qa_ : ¬ (([45] : List UInt8).contains a = true)
  · have qa := qa_
    have na : a ≠ 45 := by intro q; subst q; exact qa (by decide)
    have hb : (web2 L).2.bad = true := by unfold web2; rw [w1]; exact dig_bad (sign_not (cont_false qa))
    rw [web_bad (web6_bad2 hb)]
    unfold webR
    rw [if_pos (by rw [g4]; exact .inr (.inl (by simpa using na)))]
  have qa := Decidable.not_not.1 qa_
  have ea : a = 45 := by simpa using qa
  by_cases q2_ : ¬ ([m0, m1].all digB = true)
  · have q2 := q2_
    have n1 := num_neg (all_false q2)
    have hb : (web2 L).2.bad = true := by unfold web2; rw [w1]; simp only [sign_of qa]; exact dig_not (w := 2) rfl (all_false q2)
    rw [web_bad (web6_bad2 hb), webR_bad (by rw [D]; exact dt_bad_m n1)]
  have q2 := Decidable.not_not.1 q2_
  have w2 : web2 L = (numL [m0, m1], ⟨b :: d0 :: d1 :: c :: h0 :: h1 :: e :: i0 :: i1 :: f :: s0 :: s1 :: rest, false⟩) := by unfold web2; rw [w1]; simp only [sign_of qa]; exact dig_of (w := 2) rfl q2
  by_cases qb_ : ¬ (([45] : List UInt8).contains b = true)
  · have qb := qb_
    have na : b ≠ 45 := by intro q; subst q; exact qb (by decide)
    have hb : (web3 L).2.bad = true := by unfold web3; rw [w2]; exact dig_bad (sign_not (cont_false qb))
    rw [web_bad (web6_bad3 hb)]
    unfold webR
    rw [if_pos (by rw [g7]; exact .inr (.inr (.inl (by simpa using na))))]
  have qb := Decidable.not_not.1 qb_
  have eb : b = 45 := by simpa using qb
  by_cases q3_ : ¬ ([d0, d1].all digB = true)
  · have q3 := q3_
    have n1 := num_neg (all_false q3)
    have hb : (web3 L).2.bad = true := by unfold web3; rw [w2]; simp only [sign_of qb]; exact dig_not (w := 2) rfl (all_false q3)
    rw [web_bad (web6_bad3 hb), webR_bad (by rw [D]; exact dt_bad_o (.inl n1))]
  have q3 := Decidable.not_not.1 q3_
  have w3 : web3 L = (numL [d0, d1], ⟨c :: h0 :: h1 :: e :: i0 :: i1 :: f :: s0 :: s1 :: rest, false⟩) := by unfold web3; rw [w2]; simp only [sign_of qb]; exact dig_of (w := 2) rfl q3
  by_cases qc_ : ¬ (([84, 116] : List UInt8).contains c = true)
  · have qc := qc_
    have na : c ≠ 84 ∧ c ≠ 116 := by simpa using qc
    have hb : (web4 L).2.bad = true := by unfold web4; rw [w3]; exact dig_bad (sign_not (cont_false qc))
    rw [web_bad (web6_bad4 hb)]
    unfold webR
    rw [if_pos (by rw [g10]; exact .inr (.inr (.inr (.inl (by simpa using na)))))]
  have qc := Decidable.not_not.1 qc_
  have ec : c = 84 ∨ c = 116 := by simpa using qc
  by_cases q4_ : ¬ ([h0, h1].all digB = true)
  · have q4 := q4_
    have n1 := num_neg (all_false q4)
    have hb : (web4 L).2.bad = true := by unfold web4; rw [w3]; simp only [sign_of qc]; exact dig_not (w := 2) rfl (all_false q4)
    rw [web_bad (web6_bad4 hb), webR_bad (by rw [D]; exact dt_bad_o (.inr (.inl n1)))]
  have q4 := Decidable.not_not.1 q4_
  have w4 : web4 L = (numL [h0, h1], ⟨e :: i0 :: i1 :: f :: s0 :: s1 :: rest, false⟩) := by unfold web4; rw [w3]; simp only [sign_of qc]; exact dig_of (w := 2) rfl q4
  by_cases qe_ : ¬ (([58] : List UInt8).contains e = true)
  · have qe := qe_
    have na : e ≠ 58 := by intro q; subst q; exact qe (by decide)
    have hb : (web5 L).2.bad = true := by unfold web5; rw [w4]; exact dig_bad (sign_not (cont_false qe))
    rw [web_bad (web6_bad5 hb)]
    unfold webR
    rw [if_pos (by rw [g13]; exact .inr (.inr (.inr (.inr (.inl (by simpa using na))))))]
  have qe := Decidable.not_not.1 qe_
  have ee : e = 58 := by simpa using qe
  by_cases q5_ : ¬ ([i0, i1].all digB = true)
  · have q5 := q5_
    have n1 := num_neg (all_false q5)
    have hb : (web5 L).2.bad = true := by unfold web5; rw [w4]; simp only [sign_of qe]; exact dig_not (w := 2) rfl (all_false q5)
    rw [web_bad (web6_bad5 hb), webR_bad (by rw [D]; exact dt_bad_o (.inr (.inr (.inl n1))))]
  have q5 := Decidable.not_not.1 q5_
  have w5 : web5 L = (numL [i0, i1], ⟨f :: s0 :: s1 :: rest, false⟩) := by unfold web5; rw [w4]; simp only [sign_of qe]; exact dig_of (w := 2) rfl q5
  by_cases qf_ : ¬ (([58] : List UInt8).contains f = true)
  · have qf := qf_
    have na : f ≠ 58 := by intro q; subst q; exact qf (by decide)
    have hb : (web6 L).2.bad = true := by unfold web6; rw [w5]; exact dig_bad (sign_not (cont_false qf))
    rw [web_bad hb]
    unfold webR
    rw [if_pos (by rw [g16]; exact .inr (.inr (.inr (.inr (.inr (by simpa using na))))))]
  have qf := Decidable.not_not.1 qf_
  have ef : f = 58 := by simpa using qf
  by_cases q6_ : ¬ ([s0, s1].all digB = true)
  · have q6 := q6_
    have n1 := num_neg (all_false q6)
    have hb : (web6 L).2.bad = true := by unfold web6; rw [w5]; simp only [sign_of qf]; exact dig_not (w := 2) rfl (all_false q6)
    rw [web_bad hb, webR_bad (by rw [D]; exact dt_bad_o (.inr (.inr (.inr n1))))]
  have q6 := Decidable.not_not.1 q6_
  have w6 : web6 L = (numL [s0, s1], ⟨rest, false⟩) := by unfold web6; rw [w5]; simp only [sign_of qf]; exact dig_of (w := 2) rfl q6
  have D2 : webD L = ⟨(web1 L).1, (web2 L).1, (web3 L).1, (web4 L).1, (web5 L).1, (web6 L).1⟩ := by
    rw [D, w1, w2, w3, w4, w5, w6, num_pos q1 (by simp) (by simp), num_pos q2 (by simp) (by simp), num_pos q3 (by simp) (by simp), num_pos q4 (by simp) (by simp), num_pos q5 (by simp) (by simp), num_pos q6 (by simp) (by simp)]
  unfold webC
  rw [← D2, w6]
  simp only
  by_cases hr : rest = []
  · subst hr
    unfold webR
    rw [if_pos (by rw [len]; simp)]
    exact told_bad (by decide)
  · have hl : 1 ≤ rest.length := List.length_pos_iff.2 hr
    unfold webR
    rw [if_neg (by
      rw [g4, g7, g10, g13, g16, len, ea, eb, ee, ef]
      rcases ec with ec | ec <;> subst ec <;> simp <;> omega), gr]
    rcases point_web rest with ⟨p1, p2⟩ | ⟨r2, p1, p2⟩
    · rw [p1]
      exact told_bad (zone_bad p2)
    · rw [p1, p2]
      exact zone_web _ r2
end Go.Proofs.YtjjlmkleidbmhaaGreatDoor
end
section
namespace Go.Proofs.YtjjlmkleidbmhaaGreatDoor
open Go.Nst
set_option maxRecDepth 100000
set_option linter.unusedVariables false
set_option linter.unusedSimpArgs false

/-- the last w digits of n -/
def digL : Nat → Int → List UInt8
  | 0, _ => []
  | w + 1, n => digL w (n / 10) ++ [UInt8.ofNat (48 + (n % 10).toNat)]
theorem digL_len : ∀ (w : Nat) (n : Int), (digL w n).length = w
  | 0, _ => rfl
  | w + 1, n => by simp [digL, digL_len w]
theorem digit_nat {n : Int} : (UInt8.ofNat (48 + (n % 10).toNat)).toNat = 48 + (n % 10).toNat := by
  rw [UInt8.toNat_ofNat']
  omega
theorem digL_all : ∀ (w : Nat) (n : Int), (digL w n).all digB = true
  | 0, _ => rfl
  | w + 1, n => by
    simp only [digL, List.all_append, digL_all w, Bool.true_and, List.all_cons, List.all_nil, Bool.and_true]
    unfold digB
    rw [digit_nat]
    simp
    omega
theorem numL_dig : ∀ (w : Nat) (n : Int), 0 ≤ n → n < 10 ^ w → numL (digL w n) = n
  | 0, n, h0, h1 => by simp at h1; simp [digL, numL]; omega
  | w + 1, n, h0, h1 => by
    rw [Int.pow_succ] at h1
    rw [digL, numL_snoc, numL_dig w (n / 10) (by omega) (by omega), digit_nat]
    omega
def showT (x : Dt) : List UInt8 := digL 4 x.y ++ 45 :: (digL 2 x.m ++ 45 :: (digL 2 x.d ++ 84 :: (digL 2 x.h ++ 58 :: (digL 2 x.mi ++ 58 :: (digL 2 x.s ++ [90])))))
/-- what is shown is read -/
theorem web_show {x : Dt} (h : x.ok = true) : webC (showT x) = some x.mom := by
  obtain ⟨y0, y1, m0, m1⟩ := ok_ym h
  have hx := (ok_iff x).1 h
  have hd := (days_pos y0 y1 m0 m1).2
  have w1 : web1 (showT x) = (x.y, ⟨45 :: (digL 2 x.m ++ 45 :: (digL 2 x.d ++ 84 :: (digL 2 x.h ++ 58 :: (digL 2 x.mi ++ 58 :: (digL 2 x.s ++ [90]))))), false⟩) := by
    unfold web1 showT
    rw [dig_of (digL_len 4 _) (digL_all 4 _), numL_dig 4 _ (by omega) (by omega)]
  have w2 : web2 (showT x) = (x.m, ⟨45 :: (digL 2 x.d ++ 84 :: (digL 2 x.h ++ 58 :: (digL 2 x.mi ++ 58 :: (digL 2 x.s ++ [90])))), false⟩) := by
    unfold web2
    rw [w1, sign_of (by decide)]
    simp only
    rw [dig_of (digL_len 2 _) (digL_all 2 _), numL_dig 2 _ (by omega) (by omega)]
  have w3 : web3 (showT x) = (x.d, ⟨84 :: (digL 2 x.h ++ 58 :: (digL 2 x.mi ++ 58 :: (digL 2 x.s ++ [90]))), false⟩) := by
    unfold web3
    rw [w2, sign_of (by decide)]
    simp only
    rw [dig_of (digL_len 2 _) (digL_all 2 _), numL_dig 2 _ (by omega) (by omega)]
  have w4 : web4 (showT x) = (x.h, ⟨58 :: (digL 2 x.mi ++ 58 :: (digL 2 x.s ++ [90])), false⟩) := by
    unfold web4
    rw [w3, sign_of (by decide)]
    simp only
    rw [dig_of (digL_len 2 _) (digL_all 2 _), numL_dig 2 _ (by omega) (by omega)]
  have w5 : web5 (showT x) = (x.mi, ⟨58 :: (digL 2 x.s ++ [90]), false⟩) := by
    unfold web5
    rw [w4, sign_of (by decide)]
    simp only
    rw [dig_of (digL_len 2 _) (digL_all 2 _), numL_dig 2 _ (by omega) (by omega)]
  have w6 : web6 (showT x) = (x.s, ⟨[90], false⟩) := by
    unfold web6
    rw [w5, sign_of (by decide)]
    simp only
    rw [dig_of (digL_len 2 _) (digL_all 2 _), numL_dig 2 _ (by omega) (by omega)]
  have hp : rdPoint ⟨[90], false⟩ = ⟨[90], false⟩ := by decide
  have hz : rdZone ⟨[90], false⟩ = (0, ⟨[], false⟩) := by decide
  unfold webC
  rw [w1, w2, w3, w4, w5, w6]
  simp only
  rw [hp, hz]
  unfold toldC toldR
  have hm := mom_bounds h
  have e0 : ∀ z : Int, z - 0 = z := fun z => by omega
  simp only [e0, h, hm]
  rfl

end Go.Proofs.YtjjlmkleidbmhaaGreatDoor
end
section
namespace Go.Proofs.YtjjlmkleidbmhaaGreatDoor
open Go.RowKit Go.Nst
set_option maxRecDepth 100000
set_option linter.unusedVariables false
set_option linter.unusedSimpArgs false

def dqB (c : UInt8) : Bool := decide (48 ≤ c.toNat) && decide (c.toNat ≤ 57)
/-- the number of 1 to 7 digits; -1: it is none -/
def numD (t : List UInt8) : Int := if t.length < 1 ∨ 7 < t.length ∨ (1 < t.length ∧ t.head? = some 48) then -1 else if t.all dqB = true then (valD t : Int) else -1
/-- the code's: what strconv.Atoi reads, if it is written so -/
def numC (s : List UInt8) : Int := match Lib.atoiAll s with
  | .ok v => if 7 < s.length ∨ Lib.itoa v ≠ s then -1 else v
  | _ => -1
theorem dec_dig (u : Nat) : (Lib.decDigits u).all dqB = true := by
  induction u using Nat.strongRecOn with
  | _ u ih =>
    rw [Lib.decDigits]
    split
    · rename_i h
      simp only [List.all_cons, List.all_nil, Bool.and_true, dqB]
      rw [show (UInt8.ofNat (48 + u)).toNat = 48 + u by simp; omega]
      simp
      omega
    · have h := ih (u / 10) (by omega)
      rw [List.all_append, h]
      simp only [List.all_cons, List.all_nil, Bool.and_true, Bool.true_and, dqB]
      have : u % 10 < 10 := Nat.mod_lt _ (by omega)
      rw [show (UInt8.ofNat (48 + u % 10)).toNat = 48 + u % 10 by simp; omega]
      simp
      omega
theorem dec_ne (u : Nat) : Lib.decDigits u ≠ [] := by
  rw [Lib.decDigits]
  split <;> simp
theorem dec_head (u : Nat) : 1 ≤ u → (Lib.decDigits u).head? ≠ some 48 := by
  induction u using Nat.strongRecOn with
  | _ u ih =>
    intro h1 h
    rw [Lib.decDigits] at h
    split at h
    · rename_i hu
      simp only [List.head?_cons, Option.some.injEq] at h
      have := congrArg UInt8.toNat h
      rw [show (UInt8.ofNat (48 + u)).toNat = 48 + u by simp; omega] at this
      simp at this
      omega
    · rename_i hu
      have hh : (Lib.decDigits (u / 10) ++ [UInt8.ofNat (48 + u % 10)]).head? = (Lib.decDigits (u / 10)).head? := by
        cases hd : Lib.decDigits (u / 10) with
        | nil => exact absurd hd (dec_ne _)
        | cons a r => rfl
      rw [hh] at h
      exact ih (u / 10) (by omega) (by omega) h
theorem num_dec {u : Nat} (h : (Lib.decDigits u).length ≤ 7) : numD (Lib.decDigits u) = u := by
  unfold numD
  have h0 : 0 < (Lib.decDigits u).length := List.length_pos_iff.2 (dec_ne u)
  rw [if_neg, if_pos (dec_dig u), val_dec]
  rintro (h1 | h1 | ⟨h1, h2⟩)
  · omega
  · omega
  · by_cases hu : 1 ≤ u
    · exact dec_head u hu h2
    · obtain rfl : u = 0 := by omega
      rw [Lib.decDigits_one (by omega)] at h1
      simp at h1
theorem val_snoc (t : List UInt8) (c : UInt8) : valD (t ++ [c]) = 10 * valD t + (c.toNat - 48) := by
  unfold valD
  rw [List.foldl_append]
  rfl
theorem dq_bd {c : UInt8} (h : dqB c = true) : 48 ≤ c.toNat ∧ c.toNat ≤ 57 := by
  unfold dqB at h
  simpa using h
theorem dq_of {c : UInt8} (h : dqB c = true) : UInt8.ofNat (48 + (c.toNat - 48)) = c := by
  obtain ⟨h1, h2⟩ := dq_bd h
  rw [show 48 + (c.toNat - 48) = c.toNat by omega]
  simp
theorem val_pos : ∀ (n : Nat) (t : List UInt8), t.length ≤ n → t ≠ [] → t.all dqB = true → t.head? ≠ some 48 → 1 ≤ valD t := by
  intro n
  induction n with
  | zero => intro t h h0; exact absurd (List.eq_nil_of_length_eq_zero (by omega)) h0
  | succ n ih =>
    intro t h h0 hd hh
    obtain ⟨r, c, rfl⟩ : ∃ r c, t = r ++ [c] := ⟨t.dropLast, t.getLast h0, (List.dropLast_concat_getLast h0).symm⟩
    rw [List.all_append] at hd
    simp only [Bool.and_eq_true, List.all_cons, List.all_nil, Bool.and_true] at hd
    rw [val_snoc]
    cases r with
    | nil =>
      have hb := dq_bd hd.2
      have : c.toNat ≠ 48 := by
        intro e
        apply hh
        simp only [List.nil_append, List.head?_cons, Option.some.injEq]
        exact UInt8.toNat_inj.1 e
      simp [valD]
      omega
    | cons a b =>
      have := ih (a :: b) (by simp at h ⊢; omega) (by simp) hd.1 (by simpa using hh)
      omega
theorem dec_val : ∀ (n : Nat) (t : List UInt8), t.length ≤ n → t ≠ [] → t.all dqB = true → (t.length = 1 ∨ t.head? ≠ some 48) → Lib.decDigits (valD t) = t := by
  intro n
  induction n with
  | zero => intro t h h0; exact absurd (List.eq_nil_of_length_eq_zero (by omega)) h0
  | succ n ih =>
    intro t h h0 hd hh
    obtain ⟨r, c, rfl⟩ : ∃ r c, t = r ++ [c] := ⟨t.dropLast, t.getLast h0, (List.dropLast_concat_getLast h0).symm⟩
    rw [List.all_append] at hd
    simp only [Bool.and_eq_true, List.all_cons, List.all_nil, Bool.and_true] at hd
    have hb := dq_bd hd.2
    rw [val_snoc]
    cases r with
    | nil =>
      rw [Lib.decDigits, dif_pos (by simp [valD]; omega)]
      simp only [valD, List.foldl_nil, Nat.mul_zero, Nat.zero_add, List.nil_append]
      rw [dq_of hd.2]
    | cons a b =>
      have hh2 : (a :: b).head? ≠ some 48 := by
        rcases hh with hh | hh
        · simp at hh
        · simpa using hh
      have hv := val_pos n (a :: b) (by simp at h ⊢; omega) (by simp) hd.1 hh2
      rw [Lib.decDigits, dif_neg (by omega)]
      rw [show (10 * valD (a :: b) + (c.toNat - 48)) / 10 = valD (a :: b) by omega, show (10 * valD (a :: b) + (c.toNat - 48)) % 10 = c.toNat - 48 by omega]
      rw [ih (a :: b) (by simp at h ⊢; omega) (by simp) hd.1 (.inr hh2), dq_of hd.2]
theorem from_val : ∀ (t : List UInt8) (acc : Nat), t.all dqB = true → Lib.decFrom acc t = some (t.foldl (fun n c => 10 * n + (c.toNat - 48)) acc)
  | [], acc, _ => rfl
  | c :: r, acc, h => by
    simp only [List.all_cons, Bool.and_eq_true] at h
    simp only [Lib.decFrom, Lib.digitVal, if_pos (dq_bd h.1)]
    rw [from_val r _ h.2, List.foldl_cons, Nat.mul_comm]
/-- the two agree, or both are below 0 -/
theorem num_same (s : List UInt8) : numC s = numD s ∨ (numC s < 0 ∧ numD s < 0) := by
  have hneg : numD s < 0 → numC s < 0 := by
    intro h
    unfold numC
    split
    · rename_i v _
      split
      · omega
      · rename_i hc
        have hc1 : ¬ 7 < s.length := fun e => hc (.inl e)
        have hc2 : Lib.itoa v = s := Classical.not_not.1 fun e => hc (.inr e)
        rcases Int.lt_or_le v 0 with hv | hv
        · exact hv
        · exfalso
          obtain ⟨u, rfl⟩ := Int.eq_ofNat_of_zero_le hv
          rw [Lib.itoa_nonneg] at hc2
          have := num_dec (u := u) (by rw [hc2]; omega)
          rw [hc2] at this
          omega
    · omega
  by_cases hn : numD s < 0
  · exact .inr ⟨hneg hn, hn⟩
  · refine .inl ?_
    unfold numD at hn ⊢
    by_cases h1 : s.length < 1 ∨ 7 < s.length ∨ (1 < s.length ∧ s.head? = some 48)
    · rw [if_pos h1] at hn; exact absurd (by omega) hn
    · rw [if_neg h1] at hn ⊢
      by_cases h2 : s.all dqB = true
      · rw [if_pos h2]
        have hl0 : ¬ s.length < 1 := fun e => h1 (.inl e)
        have hl7 : ¬ 7 < s.length := fun e => h1 (.inr (.inl e))
        have hs0 : s ≠ [] := by rintro rfl; exact hl0 (by simp)
        have hh : s.length = 1 ∨ s.head? ≠ some 48 := by
          by_cases e : s.length = 1
          · exact .inl e
          · exact .inr fun e2 => h1 (.inr (.inr ⟨by omega, e2⟩))
        have hd := dec_val s.length s (Nat.le_refl _) hs0 h2 hh
        have hat : Lib.atoi s = some (valD s : Int) := by
          cases s with
          | nil => exact absurd rfl hs0
          | cons c r =>
            have hb := dq_bd (show dqB c = true by simp only [List.all_cons, Bool.and_eq_true] at h2; exact h2.1)
            have n45 : (c == 45) = false := by
              rw [beq_eq_false_iff_ne]
              rintro rfl
              exact absurd hb.1 (by decide)
            have n43 : (c == 43) = false := by
              rw [beq_eq_false_iff_ne]
              rintro rfl
              exact absurd hb.1 (by decide)
            simp only [Lib.atoi, n45, n43, Lib.decNat, List.isEmpty_cons]
            rw [if_neg (by decide), if_neg (by decide), if_neg (by decide), from_val _ _ h2]
            rfl
        have hall : Lib.atoiAll s = .ok (valD s : Int) := by
          rw [Lib.atoiAll_short s (by omega), hat]
          rfl
        unfold numC
        rw [hall]
        simp only
        rw [if_neg]
        rintro (e | e)
        · exact hl7 e
        · exact e (by rw [Lib.itoa_nonneg]; exact hd)
      · rw [if_neg h2] at hn; exact absurd (by omega) hn

def tAll : List UInt8 := [97, 108, 108]
def tNon : List UInt8 := [110, 111, 110, 101]
def tUnr : List UInt8 := [117, 110, 114, 101, 97, 100]
def tSta : List UInt8 := [115, 116, 97, 114, 114, 101, 100]
def pFee : List UInt8 := [102, 101, 101, 100, 58]
def pFol : List UInt8 := [102, 111, 108, 100, 101, 114, 58]
def pWit : List UInt8 := [119, 105, 116, 104, 105, 110, 58]
def pBef : List UInt8 := [98, 101, 102, 111, 114, 101, 58]
def pSin : List UInt8 := [115, 105, 110, 99, 101, 58]
def pTag : List UInt8 := [116, 97, 103, 58]
def pWor : List UInt8 := [119, 111, 114, 100, 58]
def pBeg : List UInt8 := [98, 101, 103, 105, 110, 115, 58]
/-- what stands behind a beginning -/
def stp (p s : List UInt8) : Option (List UInt8) := if p.isPrefixOf s = true then some (s.drop p.length) else none
def tailZ : List UInt8 := [84, 48, 48, 58, 48, 48, 58, 48, 48, 90]
/-- the moment of a date, or of a day -/
def momT (s : List UInt8) : Option Int := webR (if s.length = 10 then s ++ tailZ else s)
def chkQ (q : Qy) : Option Qy := if okQ q = true then some q else none
/-- the document's term -/
def termD (s : List UInt8) : Option Qy :=
  if s = tAll then some ⟨1, 0, [], []⟩ else if s = tNon then some ⟨2, 0, [], []⟩ else if s = tUnr then some ⟨9, 0, [], []⟩ else if s = tSta then some ⟨10, 0, [], []⟩ else
  match stp pFee s with
  | some t => chkQ ⟨6, numD t, [], []⟩
  | none => match stp pFol s with
  | some t => chkQ ⟨7, numD t, [], []⟩
  | none => match stp pWit s with
  | some t => chkQ ⟨15, numD t, [], []⟩
  | none => match stp pBef s with
  | some t => (momT t).bind fun n => chkQ ⟨13, n, [], []⟩
  | none => match stp pSin s with
  | some t => (momT t).bind fun n => chkQ ⟨14, n, [], []⟩
  | none => match stp pTag s with
  | some t => chkQ ⟨8, 0, foldT t, []⟩
  | none => match stp pWor s with
  | some t => chkQ ⟨11, 0, foldT t, []⟩
  | none => match stp pBeg s with
  | some t => chkQ ⟨12, 0, foldT t, []⟩
  | none => chkQ ⟨11, 0, foldT s, []⟩
/-- the text of a leaf -/
def leafD (o n : Int) (s : List UInt8) : List UInt8 :=
  if o = 1 then tAll else if o = 2 then tNon else if o = 9 then tUnr else if o = 10 then tSta else
  if o = 6 then pFee ++ Lib.itoa n else if o = 7 then pFol ++ Lib.itoa n else if o = 15 then pWit ++ Lib.itoa n else
  if o = 13 then pBef ++ showT (ofD n) else if o = 14 then pSin ++ showT (ofD n) else
  if o = 8 then pTag ++ s else if o = 11 then pWor ++ s else pBeg ++ s
theorem okQ_leaf (o n : Int) (s : List UInt8) : okQ ⟨o, n, s, []⟩ = oneQ o n s 0 := by
  unfold okQ
  have h1 : depQ ⟨o, n, s, []⟩ 1 = 1 := by simp [depQ, depL]
  have h2 : nodQ ⟨o, n, s, []⟩ = 1 := by simp [nodQ, nodL]
  have h3 : plaQ ⟨o, n, s, []⟩ = oneQ o n s 0 := by simp [plaQ, plaL]
  rw [h1, h2, h3]
  simp
end Go.Proofs.YtjjlmkleidbmhaaGreatDoor
end
section
namespace Go.Proofs.YtjjlmkleidbmhaaGreatDoor
open Go.RowKit Go.Nst
set_option maxRecDepth 100000
set_option linter.unusedVariables false
set_option linter.unusedSimpArgs false

/-- a byte of a word: none that ends a run, no colon -/
def wdB (c : UInt8) : Bool := runB c && !(c == 58)
theorem wdB_of {c : UInt8} (h : c.toNat ≠ 32) (h1 : c.toNat ≠ 40) (h2 : c.toNat ≠ 41) (h3 : c.toNat ≠ 58) : wdB c = true := by
  have f : ∀ d : UInt8, c.toNat ≠ d.toNat → (c == d) = false := fun d hd => by
    rw [beq_eq_false_iff_ne]
    rintro rfl
    exact hd rfl
  unfold wdB runB sideB
  rw [f 32 h, f 40 h1, f 41 h2, f 58 h3]
  rfl
theorem wdB_run {c : UInt8} (h : wdB c = true) : runB c = true := by
  unfold wdB at h
  simp only [Bool.and_eq_true] at h
  exact h.1
theorem encZ_ge {c : Int} (h : 128 ≤ c) : ∀ x ∈ Lib.encodeRuneZ c, 128 ≤ x ∧ x < 256 := by
  intro x hx
  unfold Lib.encodeRuneZ at hx
  (repeat' split at hx) <;> simp at hx <;> omega
theorem enc_wd {c : Int} (h : letterB c = true) (h0 : 0 ≤ c) : (Lib.encodeRune c).all wdB = true := by
  unfold letterB at h
  unfold Lib.encodeRune
  rw [List.all_eq_true]
  intro y hy
  rw [List.mem_map] at hy
  obtain ⟨x, hx, rfl⟩ := hy
  by_cases hc : c < 192
  · rw [if_pos hc] at h
    simp at h
    rw [Lib.encodeRuneZ_one h0 (by omega)] at hx
    simp at hx
    subst hx
    have : x.toNat.toUInt8.toNat = x.toNat := by simp; omega
    exact wdB_of (by rw [this]; omega) (by rw [this]; omega) (by rw [this]; omega) (by rw [this]; omega)
  · have hb := encZ_ge (by omega) x hx
    have : x.toNat.toUInt8.toNat = x.toNat := by simp; omega
    exact wdB_of (by rw [this]; omega) (by rw [this]; omega) (by rw [this]; omega) (by rw [this]; omega)
theorem runsF_all : ∀ (l cur : List Int) (p : Int → Prop), (∀ c ∈ cur, p c ∧ letterB c = true) → (∀ c ∈ l, p c) → ∀ r ∈ runsF cur l, r ≠ [] ∧ ∀ c ∈ r, p c ∧ letterB c = true
  | [], cur, p, hc, _, r, hr => by
    simp only [runsF] at hr
    split at hr
    · cases hr
    · rename_i hne
      obtain rfl : r = cur := by simpa using hr
      exact ⟨hne, hc⟩
  | c :: t, cur, p, hc, hl, r, hr => by
    simp only [runsF] at hr
    have ht : ∀ c ∈ t, p c := fun x hx => hl x (by simp [hx])
    split at hr
    · rename_i hlet
      refine runsF_all t (cur ++ [c]) p (fun x hx => ?_) ht r hr
      rcases List.mem_append.1 hx with h | h
      · exact hc x h
      · obtain rfl : x = c := by simpa using h
        exact ⟨hl x (by simp), hlet⟩
    · split at hr
      · exact runsF_all t [] p (fun x hx => by cases hx) ht r hr
      · rename_i hne
        rcases List.mem_cons.1 hr with h | h
        · subst h
          exact ⟨hne, hc⟩
        · exact runsF_all t [] p (fun x hx => by cases hx) ht r h
/-- A WORD: not empty, of word's bytes, folded already -/
theorem word_good {l : List UInt8} (h : wordB l = true) : l ≠ [] ∧ l.all wdB = true ∧ foldT l = l := by
  unfold wordB wordsL wordsR at h
  have h : ((runsF [] ((runesI l).map foldC)).map (·.take 32)).map putR = [l] := by simpa using h
  have hok : Okr ((runesI l).map foldC) := foldC_ok _ (runes_ok l)
  have hall := runsF_all ((runesI l).map foldC) [] (fun c => (0 ≤ c ∧ c ≤ 1114111 ∧ ¬ (55296 ≤ c ∧ c ≤ 57343)) ∧ foldC c = c) (fun c hc => by cases hc) (fun c hc => ⟨hok c hc, by
    rw [List.mem_map] at hc
    obtain ⟨x, _, rfl⟩ := hc
    exact foldC_again x⟩)
  generalize runsF [] ((runesI l).map foldC) = R at *
  match R, h, hall with
  | [r], h, hall =>
    simp only [List.map_cons, List.map_nil, List.cons.injEq, and_true] at h
    obtain ⟨hne, hr⟩ := hall r (by simp)
    have hw : ∀ c ∈ r.take 32, ((0 ≤ c ∧ c ≤ 1114111 ∧ ¬ (55296 ≤ c ∧ c ≤ 57343)) ∧ foldC c = c) ∧ letterB c = true := fun c hc => hr c (List.mem_of_mem_take hc)
    have hwn : r.take 32 ≠ [] := by
      cases r with
      | nil => exact absurd rfl hne
      | cons a b => simp
    generalize r.take 32 = w at *
    subst h
    refine ⟨?_, ?_, ?_⟩
    · cases w with
      | nil => exact absurd rfl hwn
      | cons a b =>
        rw [putR_cons]
        exact enc_ne a _
    · rw [List.all_eq_true]
      intro y hy
      unfold putR at hy
      rw [List.mem_flatMap] at hy
      obtain ⟨c, hc, hy⟩ := hy
      have := enc_wd (hw c hc).2 (hw c hc).1.1.1
      exact List.all_eq_true.1 this y hy
    · unfold foldT
      rw [runes_put_ok w (fun c hc => (hw c hc).1.1)]
      congr 1
      conv => rhs; rw [← List.map_id w]
      exact List.map_congr_left (fun c hc => (hw c hc).1.2)
/-- a colon is a rune -/
theorem rune_colon : ∀ (n : Nat) (l : List UInt8), l.length ≤ n → 58 ∈ l → (58 : Int) ∈ runesI l
  | 0, l, h, hm => by
    obtain rfl : l = [] := List.eq_nil_of_length_eq_zero (by omega)
    cases hm
  | n + 1, l, h, hm => by
    cases l with
    | nil => cases hm
    | cons c t =>
      rw [runesI_step (by simp)]
      have hw := firstL_width (c :: t) (by simp)
      simp only [List.length_cons] at h
      by_cases hc : c = 58
      · subst hc
        have : (firstL (58 :: t)).1 = 58 := by simp [firstL]
        rw [this]
        exact List.mem_cons_self
      · refine List.mem_cons_of_mem _ (rune_colon n _ (by rw [List.length_drop]; simp; omega) ?_)
        have key : ∀ x ∈ (c :: t).take (firstL (c :: t)).2, x = c ∨ 128 ≤ x.toNat := by
          intro x hx
          unfold firstL at hx
          dsimp only at hx
          (repeat' split at hx) <;> simp only [List.take_succ_cons, List.take_zero, List.mem_cons, List.not_mem_nil, or_false] at hx <;> (try simp only [Bool.and_eq_true, tailB, decide_eq_true_eq] at *) <;> first
            | exact .inl hx
            | (rcases hx with hx | hx <;> first | exact .inl hx | (subst hx; exact .inr (by omega)))
            | (rcases hx with hx | hx | hx <;> first | exact .inl hx | (subst hx; exact .inr (by omega)))
            | (rcases hx with hx | hx | hx | hx <;> first | exact .inl hx | (subst hx; exact .inr (by omega)))
        have hnot : 58 ∉ (c :: t).take (firstL (c :: t)).2 := by
          intro hh
          rcases key 58 hh with h1 | h1
          · exact hc h1.symm
          · exact absurd h1 (by decide)
        have hm2 : 58 ∈ (c :: t).take (firstL (c :: t)).2 ++ (c :: t).drop (firstL (c :: t)).2 := by rw [List.take_append_drop]; exact hm
        rcases List.mem_append.1 hm2 with h1 | h1
        · exact absurd h1 hnot
        · exact h1
/-- what holds a colon is no word, folded or not -/
theorem word_colon {s : List UInt8} (h : 58 ∈ s) : wordB (foldT s) = false := by
  rw [Bool.eq_false_iff]
  intro hw
  have h1 := (word_good hw).2.1
  have h2 : (58 : Int) ∈ (runesI s).map foldC := by
    rw [List.mem_map]
    exact ⟨58, rune_colon s.length s (Nat.le_refl _) h, by decide⟩
  have h3 : (58 : UInt8) ∈ foldT s := by
    unfold foldT putR
    rw [List.mem_flatMap]
    exact ⟨58, h2, by decide⟩
  have := List.all_eq_true.1 h1 58 h3
  exact absurd this (by decide)

theorem dq_run {l : List UInt8} (h : l.all dqB = true) : l.all runB = true := by
  rw [List.all_eq_true] at h ⊢
  intro c hc
  have := dq_bd (h c hc)
  exact wdB_run (wdB_of (by omega) (by omega) (by omega) (by omega))
theorem wd_run {l : List UInt8} (h : l.all wdB = true) : l.all runB = true := by
  rw [List.all_eq_true] at h ⊢
  exact fun c hc => wdB_run (h c hc)
theorem showT_run (x : Dt) : (showT x).all runB = true ∧ (showT x).length = 20 := by
  have hd : ∀ w n, (digL w n).all runB = true := fun w n => by
    have h := digL_all w n
    rw [List.all_eq_true] at h ⊢
    intro c hc
    have := h c hc
    unfold digB at this
    simp at this
    exact wdB_run (wdB_of (by omega) (by omega) (by omega) (by omega))
  have hl : ∀ w n, (digL w n).length = w := digL_len
  unfold showT
  constructor
  · simp only [List.all_append, List.all_cons, List.all_nil, hd]
    decide
  · simp only [List.length_append, List.length_cons, List.length_nil, hl]
/-- what a leaf's number, text are -/
theorem leaf_cases {o n : Int} {s : List UInt8} (h3 : o ≠ 3) (h4 : o ≠ 4) (h5 : o ≠ 5) (h : oneQ o n s 0 = true) :
    ((o = 1 ∨ o = 2 ∨ o = 9 ∨ o = 10) ∧ n = 0 ∧ s = []) ∨ ((o = 6 ∨ o = 7 ∨ o = 15) ∧ 0 ≤ n ∧ n ≤ 1048576 ∧ s = []) ∨ ((o = 13 ∨ o = 14) ∧ mayM n = true ∧ s = []) ∨ ((o = 8 ∨ o = 11 ∨ o = 12) ∧ n = 0 ∧ wordB s = true) := by
  unfold oneQ numQ txtQ kidQ at h
  simp only [Bool.and_eq_true, decide_eq_true_eq] at h
  obtain ⟨⟨⟨⟨ha, hb⟩, h1⟩, h2⟩, -⟩ := h
  have hc : o = 1 ∨ o = 2 ∨ o = 6 ∨ o = 7 ∨ o = 8 ∨ o = 9 ∨ o = 10 ∨ o = 11 ∨ o = 12 ∨ o = 13 ∨ o = 14 ∨ o = 15 := by omega
  rcases hc with rfl | rfl | rfl | rfl | rfl | rfl | rfl | rfl | rfl | rfl | rfl | rfl <;> simp at h1 h2 ⊢
  · exact ⟨h1, h2⟩
  · exact ⟨h1, h2⟩
  · exact ⟨by omega, by omega, h2⟩
  · exact ⟨by omega, by omega, h2⟩
  · unfold tagB at h2
    simp only [Bool.and_eq_true] at h2
    exact ⟨h1, h2.2⟩
  · exact ⟨h1, h2⟩
  · exact ⟨h1, h2⟩
  · exact ⟨h1, h2⟩
  · exact ⟨h1, h2⟩
  · exact ⟨h1, h2⟩
  · exact ⟨h1, h2⟩
  · exact ⟨by omega, by omega, h2⟩
end Go.Proofs.YtjjlmkleidbmhaaGreatDoor
end
section
namespace Go.Proofs.YtjjlmkleidbmhaaGreatDoor
open Go.RowKit Go.Nst
set_option maxRecDepth 100000
set_option linter.unusedVariables false
set_option linter.unusedSimpArgs false

theorem term_fee (t : List UInt8) : termD (pFee ++ t) = chkQ ⟨6, numD t, [], []⟩ := by simp [termD, stp, pFee, tAll, tNon, tUnr, tSta, List.isPrefixOf]
theorem term_fol (t : List UInt8) : termD (pFol ++ t) = chkQ ⟨7, numD t, [], []⟩ := by simp [termD, stp, pFee, pFol, tAll, tNon, tUnr, tSta, List.isPrefixOf]
theorem term_wit (t : List UInt8) : termD (pWit ++ t) = chkQ ⟨15, numD t, [], []⟩ := by simp [termD, stp, pFee, pFol, pWit, tAll, tNon, tUnr, tSta, List.isPrefixOf]
theorem term_bef (t : List UInt8) : termD (pBef ++ t) = (momT t).bind fun n => chkQ ⟨13, n, [], []⟩ := by simp [termD, stp, pFee, pFol, pWit, pBef, tAll, tNon, tUnr, tSta, List.isPrefixOf]
theorem term_sin (t : List UInt8) : termD (pSin ++ t) = (momT t).bind fun n => chkQ ⟨14, n, [], []⟩ := by simp [termD, stp, pFee, pFol, pWit, pBef, pSin, tAll, tNon, tUnr, tSta, List.isPrefixOf]
theorem term_tag (t : List UInt8) : termD (pTag ++ t) = chkQ ⟨8, 0, foldT t, []⟩ := by simp [termD, stp, pFee, pFol, pWit, pBef, pSin, pTag, tAll, tNon, tUnr, tSta, List.isPrefixOf]
theorem term_wor (t : List UInt8) : termD (pWor ++ t) = chkQ ⟨11, 0, foldT t, []⟩ := by simp [termD, stp, pFee, pFol, pWit, pBef, pSin, pTag, pWor, tAll, tNon, tUnr, tSta, List.isPrefixOf]
theorem term_beg (t : List UInt8) : termD (pBeg ++ t) = chkQ ⟨12, 0, foldT t, []⟩ := by simp [termD, stp, pFee, pFol, pWit, pBef, pSin, pTag, pWor, pBeg, tAll, tNon, tUnr, tSta, List.isPrefixOf]
theorem termT_cons {c : UInt8} {r : List UInt8} (h1 : (c == 111) = false) (h2 : (c == 97) = false) (h3 : (c == 41) = false) (h4 : (c == 110) = false) (h5 : (c == 40) = false) : termT (c :: r) = true := by
  simp only [termT, goodT, tOr, tAnd, tCls, tNot, tOpn]
  simp_all
theorem chk_leaf {o n : Int} {s : List UInt8} (h : oneQ o n s 0 = true) : chkQ ⟨o, n, s, []⟩ = some ⟨o, n, s, []⟩ := by
  unfold chkQ
  rw [okQ_leaf, if_pos h]
theorem mom_show {n : Int} (h : mayM n = true) : momT (showT (ofD n)) = some n := by
  unfold momT
  rw [if_neg (by rw [(showT_run _).2]; decide), ← web_same, web_show (ofD_ok h).1, (ofD_ok h).2]
theorem itoa_small {n : Int} (h0 : 0 ≤ n) (h1 : n ≤ 1048576) : numD (Lib.itoa n) = n ∧ (Lib.itoa n).all runB = true := by
  obtain ⟨u, rfl⟩ := Int.eq_ofNat_of_zero_le h0
  rw [Lib.itoa_nonneg]
  refine ⟨num_dec ?_, dq_run (dec_dig u)⟩
  rw [Lib.decDigits_length]
  have : ∀ (k u : Nat), u < 10 ^ k → 1 ≤ k → Lib.nDigits u ≤ k := by
    intro k
    induction k with
    | zero => intro u _ h; omega
    | succ k ih =>
      intro u hu _
      by_cases h10 : u < 10
      · rw [Lib.nDigits_small h10]
        omega
      · rw [Lib.nDigits_big h10]
        have hk : 1 ≤ k := by
          rcases Nat.eq_zero_or_pos k with e | e
          · subst e
            simp at hu
            omega
          · exact e
        have := ih (u / 10) (by rw [Nat.pow_succ] at hu; omega) hk
        omega
  exact this 7 u (by omega) (by omega)
/-- each leaf's text is a run -/
theorem leaf_runs : Lrs leafD := by
  intro o n s h3 h4 h5 h
  rcases leaf_cases h3 h4 h5 h with ⟨ho, rfl, rfl⟩ | ⟨ho, h0, h1, rfl⟩ | ⟨ho, hm, rfl⟩ | ⟨ho, rfl, hw⟩
  · rcases ho with rfl | rfl | rfl | rfl <;> exact ⟨by decide, by decide⟩
  · have hr := (itoa_small h0 h1).2
    rcases ho with rfl | rfl | rfl
    · exact ⟨by simp [leafD, pFee], by rw [show leafD 6 n [] = pFee ++ Lib.itoa n from rfl, List.all_append, hr]; decide⟩
    · exact ⟨by simp [leafD, pFol], by rw [show leafD 7 n [] = pFol ++ Lib.itoa n from rfl, List.all_append, hr]; decide⟩
    · exact ⟨by simp [leafD, pWit], by rw [show leafD 15 n [] = pWit ++ Lib.itoa n from rfl, List.all_append, hr]; decide⟩
  · have hr := (showT_run (ofD n)).1
    rcases ho with rfl | rfl
    · exact ⟨by simp [leafD, pBef], by rw [show leafD 13 n [] = pBef ++ showT (ofD n) from rfl, List.all_append, hr]; decide⟩
    · exact ⟨by simp [leafD, pSin], by rw [show leafD 14 n [] = pSin ++ showT (ofD n) from rfl, List.all_append, hr]; decide⟩
  · have hr := wd_run (word_good hw).2.1
    rcases ho with rfl | rfl | rfl
    · exact ⟨by simp [leafD, pTag], by rw [show leafD 8 0 s = pTag ++ s from rfl, List.all_append, hr]; decide⟩
    · exact ⟨by simp [leafD, pWor], by rw [show leafD 11 0 s = pWor ++ s from rfl, List.all_append, hr]; decide⟩
    · exact ⟨by simp [leafD, pBeg], by rw [show leafD 12 0 s = pBeg ++ s from rfl, List.all_append, hr]; decide⟩
/-- each leaf's text is a term, and its own -/
theorem leaf_terms : Lfs leafD termD := by
  intro o n s h3 h4 h5 h
  have hc := chk_leaf h
  rcases leaf_cases h3 h4 h5 h with ⟨ho, rfl, rfl⟩ | ⟨ho, h0, h1, rfl⟩ | ⟨ho, hm, rfl⟩ | ⟨ho, rfl, hw⟩
  · rcases ho with rfl | rfl | rfl | rfl <;> exact ⟨by decide, rfl⟩
  · have hr := (itoa_small h0 h1).1
    rcases ho with rfl | rfl | rfl
    · refine ⟨termT_cons rfl rfl rfl rfl rfl, ?_⟩
      rw [show leafD 6 n [] = pFee ++ Lib.itoa n from rfl, term_fee, hr, hc]
    · refine ⟨termT_cons rfl rfl rfl rfl rfl, ?_⟩
      rw [show leafD 7 n [] = pFol ++ Lib.itoa n from rfl, term_fol, hr, hc]
    · refine ⟨termT_cons rfl rfl rfl rfl rfl, ?_⟩
      rw [show leafD 15 n [] = pWit ++ Lib.itoa n from rfl, term_wit, hr, hc]
  · have hr := mom_show hm
    rcases ho with rfl | rfl
    · refine ⟨termT_cons rfl rfl rfl rfl rfl, ?_⟩
      rw [show leafD 13 n [] = pBef ++ showT (ofD n) from rfl, term_bef, hr]
      exact hc
    · refine ⟨termT_cons rfl rfl rfl rfl rfl, ?_⟩
      rw [show leafD 14 n [] = pSin ++ showT (ofD n) from rfl, term_sin, hr]
      exact hc
  · have hr := (word_good hw).2.2
    rcases ho with rfl | rfl | rfl
    · refine ⟨termT_cons rfl rfl rfl rfl rfl, ?_⟩
      rw [show leafD 8 0 s = pTag ++ s from rfl, term_tag, hr, hc]
    · refine ⟨termT_cons rfl rfl rfl rfl rfl, ?_⟩
      rw [show leafD 11 0 s = pWor ++ s from rfl, term_wor, hr, hc]
    · refine ⟨termT_cons rfl rfl rfl rfl rfl, ?_⟩
      rw [show leafD 12 0 s = pBeg ++ s from rfl, term_beg, hr, hc]
/-- the text of a query -/
abbrev shwD (q : Qy) : List UInt8 := shwQ leafD q
/-- the query of a text, a place, what is wrong -/
abbrev parD (s : List UInt8) : Qy × Int × Int := prsD termD s
/-- WHAT IS SHOWN IS PARSED AS IT WAS -/
theorem back_law {q : Qy} (h : okQ q = true) : if 512 < (shwD q).length then parD (shwD q) = (Qy.zero, 0, 3) else parD (shwD q) = (q, ((shwD q).length : Int), 0) := by
  have hp : plaQ q = true := by
    unfold okQ at h
    simp only [Bool.and_eq_true] at h
    exact h.2
  have hb := back_plain leaf_terms leaf_runs hp
  split
  · rename_i hl
    unfold parD prsD
    rw [if_pos hl]
  · rename_i hl
    unfold parD
    rw [prsD_of hb (show (shwD q).length ≤ 512 by omega), if_pos h]
end Go.Proofs.YtjjlmkleidbmhaaGreatDoor
end
