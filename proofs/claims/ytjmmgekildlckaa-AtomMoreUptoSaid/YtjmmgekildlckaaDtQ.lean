/-
  Dates as texts, in plain Lean: a date of the web as the code reads it is one as the document has it; what is shown is read.
-/
import Derived.WalkKit
import Derived.Test.YtjmmgekildlckaaProg
import Derived.Test.YtjmmgekildlckaaPla
import Derived.Test.YtjmmgekildlckaaDtP
import Derived.Test.YtjmmgekildlckaaDig
namespace Go.Proofs.Ytjmmgekildlckaa
open Go.Nst
set_option maxRecDepth 100000
set_option linter.unusedVariables false
set_option linter.unusedSimpArgs false

/-- what is left of a text; is it bad? -/
structure RD where
  l : List UInt8
  bad : Bool
deriving DecidableEq
def rdDig (w : Nat) (r : RD) : Int × RD := if r.l.length < w then (0, ⟨r.l, true⟩) else if (r.l.take w).all digB then (numL (r.l.take w), ⟨r.l.drop w, r.bad⟩) else (0, ⟨r.l, true⟩)
def rdSign (some_ : List UInt8) (r : RD) : UInt8 × RD := match r.l with
  | [] => (0, ⟨[], true⟩)
  | c :: t => if some_.contains c then (c, ⟨t, r.bad⟩) else (0, ⟨c :: t, true⟩)
def runL : List UInt8 → Nat
  | [] => 0
  | c :: t => if digB c then runL t + 1 else 0
def rdPoint (r : RD) : RD := if r.l.head? = some 46 then ⟨r.l.tail.drop (runL r.l.tail), r.bad || !(decide (1 ≤ runL r.l.tail) && decide (runL r.l.tail ≤ 9))⟩ else r
def rdColon (colon : Bool) (r : RD) : RD := if colon then (rdSign [58] r).2 else r
def offN (s : UInt8) (h m : Int) : Int := if s = 45 then -(3600 * h + 60 * m) else 3600 * h + 60 * m
def rdOff (colon : Bool) (r : RD) : Int × RD :=
  (offN (rdSign [43, 45] r).1 (rdDig 2 (rdSign [43, 45] r).2).1 (rdDig 2 (rdColon colon (rdDig 2 (rdSign [43, 45] r).2).2)).1,
    ⟨(rdDig 2 (rdColon colon (rdDig 2 (rdSign [43, 45] r).2).2)).2.l, (rdDig 2 (rdColon colon (rdDig 2 (rdSign [43, 45] r).2).2)).2.bad || (decide (23 < (rdDig 2 (rdSign [43, 45] r).2).1) || decide (59 < (rdDig 2 (rdColon colon (rdDig 2 (rdSign [43, 45] r).2).2)).1))⟩)
def rdZone (r : RD) : Int × RD := if r.l = [90] ∨ r.l = [122] then (0, ⟨[], r.bad⟩) else rdOff true r
def toldR (d : Dt) (z : Int) : Option Int := if d.ok && mayM (d.mom - z) then some (d.mom - z) else none
def toldC (r : RD) (d : Dt) (z : Int) : Option Int := if !r.bad && r.l.isEmpty then toldR d z else none
theorem told_bad {r : RD} {d : Dt} {z : Int} (h : r.bad = true) : toldC r d z = none := by unfold toldC; simp [h]
theorem dig_bad {w : Nat} {r : RD} (h : r.bad = true) : (rdDig w r).2.bad = true := by unfold rdDig; split; rfl; split <;> simp [h]
theorem sign_bad {s : List UInt8} {r : RD} (h : r.bad = true) : (rdSign s r).2.bad = true := by unfold rdSign; split; rfl; split <;> simp [h]
theorem point_bad {r : RD} (h : r.bad = true) : (rdPoint r).bad = true := by unfold rdPoint; split <;> simp [h]
theorem colon_bad {c : Bool} {r : RD} (h : r.bad = true) : (rdColon c r).bad = true := by unfold rdColon; split; exact sign_bad h; exact h
theorem off_bad {c : Bool} {r : RD} (h : r.bad = true) : (rdOff c r).2.bad = true := by unfold rdOff; simp [dig_bad (w := 2) (colon_bad (c := c) (dig_bad (w := 2) (sign_bad (s := [43, 45]) h)))]
theorem zone_bad {r : RD} (h : r.bad = true) : (rdZone r).2.bad = true := by unfold rdZone; split; exact h; exact off_bad h

/-- a date of the web, as the code reads it -/
def web1 (l : List UInt8) : Int × RD := rdDig 4 ⟨l, false⟩
def web2 (l : List UInt8) : Int × RD := rdDig 2 (rdSign [45] (web1 l).2).2
def web3 (l : List UInt8) : Int × RD := rdDig 2 (rdSign [45] (web2 l).2).2
def web4 (l : List UInt8) : Int × RD := rdDig 2 (rdSign [84, 116] (web3 l).2).2
def web5 (l : List UInt8) : Int × RD := rdDig 2 (rdSign [58] (web4 l).2).2
def web6 (l : List UInt8) : Int × RD := rdDig 2 (rdSign [58] (web5 l).2).2
def webC (l : List UInt8) : Option Int :=
  toldC (rdZone (rdPoint (web6 l).2)).2 ⟨(web1 l).1, (web2 l).1, (web3 l).1, (web4 l).1, (web5 l).1, (web6 l).1⟩ (rdZone (rdPoint (web6 l).2)).1
/-- as the document has it -/
def numR (l : List UInt8) : Int := if 1 ≤ l.length ∧ l.length ≤ 9 ∧ l.all digB = true then numL l else -1
def zoneR (s : UInt8) (h m : List UInt8) : Option Int :=
  if (s ≠ 43 ∧ s ≠ 45) ∨ h.length ≠ 2 ∨ m.length ≠ 2 ∨ numR h < 0 ∨ 23 < numR h ∨ numR m < 0 ∨ 59 < numR m then none else some (offN s (numR h) (numR m))
def restR (rest : List UInt8) : Option (List UInt8) :=
  if rest.head? = some 46 then (if 1 ≤ runL rest.tail ∧ runL rest.tail ≤ 9 then some (rest.tail.drop (runL rest.tail)) else none) else some rest
def webZ (d : Dt) (rest : List UInt8) : Option Int :=
  if rest = [90] ∨ rest = [122] then toldR d 0
  else if rest.length ≠ 6 ∨ rest[3]? ≠ some 58 then none
  else match zoneR (rest.headD 0) ((rest.drop 1).take 2) (rest.drop 4) with
    | none => none
    | some z => toldR d z
def webD (l : List UInt8) : Dt := ⟨numR (l.take 4), numR ((l.drop 5).take 2), numR ((l.drop 8).take 2), numR ((l.drop 11).take 2), numR ((l.drop 14).take 2), numR ((l.drop 17).take 2)⟩
def webR (l : List UInt8) : Option Int :=
  if l.length < 20 ∨ l[4]? ≠ some 45 ∨ l[7]? ≠ some 45 ∨ (l[10]? ≠ some 84 ∧ l[10]? ≠ some 116) ∨ l[13]? ≠ some 58 ∨ l[16]? ≠ some 58 then none
  else match restR (l.drop 19) with
    | none => none
    | some rest => webZ (webD l) rest
theorem told_no {d : Dt} (h : d.ok = false) (z : Int) : toldR d z = none := by unfold toldR; simp [h]
theorem num_neg {l : List UInt8} (h : l.all digB = false) : numR l = -1 := by
  unfold numR
  rw [if_neg]
  rintro ⟨_, _, h2⟩
  rw [h] at h2
  cases h2
theorem num_pos {l : List UInt8} (h : l.all digB = true) (h1 : 1 ≤ l.length) (h2 : l.length ≤ 9) : numR l = numL l := by
  unfold numR
  rw [if_pos ⟨h1, h2, h⟩]
theorem dig_of {w : Nat} {l t : List UInt8} {b : Bool} (hl : l.length = w) (h : l.all digB = true) : rdDig w ⟨l ++ t, b⟩ = (numL l, ⟨t, b⟩) := by
  unfold rdDig
  simp only [List.length_append]
  rw [if_neg (by omega), List.take_left' hl, if_pos h, List.drop_left' hl]
theorem dig_not {w : Nat} {l t : List UInt8} {b : Bool} (hl : l.length = w) (h : l.all digB = false) : (rdDig w ⟨l ++ t, b⟩).2.bad = true := by
  unfold rdDig
  simp only [List.length_append]
  rw [if_neg (by omega), List.take_left' hl, if_neg (by rw [h]; decide)]
theorem dig_short {w : Nat} {l : List UInt8} {b : Bool} (hl : l.length < w) : (rdDig w ⟨l, b⟩).2.bad = true := by
  unfold rdDig
  simp only
  rw [if_pos hl]
theorem sign_of {s : List UInt8} {c : UInt8} {t : List UInt8} {b : Bool} (h : s.contains c = true) : rdSign s ⟨c :: t, b⟩ = (c, ⟨t, b⟩) := by
  unfold rdSign
  simp only
  rw [if_pos h]
theorem sign_not {s : List UInt8} {c : UInt8} {t : List UInt8} {b : Bool} (h : s.contains c = false) : (rdSign s ⟨c :: t, b⟩).2.bad = true := by
  unfold rdSign
  simp only
  rw [if_neg (by rw [h]; decide)]
theorem sign_nil {s : List UInt8} {b : Bool} : (rdSign s ⟨[], b⟩).2.bad = true := rfl
/-- what of a text is left behind an operation that went well -/
theorem dig_len {w : Nat} {r : RD} (h : (rdDig w r).2.bad = false) : w ≤ r.l.length ∧ (rdDig w r).2.l.length = r.l.length - w ∧ r.bad = false := by
  have hb : r.bad = false := by
    cases hr : r.bad with
    | false => rfl
    | true => rw [dig_bad hr] at h; cases h
  unfold rdDig at h ⊢
  split at h
  · cases h
  · rename_i hl
    split at h
    · rename_i ha
      rw [if_neg hl, if_pos ha]
      exact ⟨by omega, by simp, hb⟩
    · cases h
theorem sign_len {s : List UInt8} {r : RD} (h : (rdSign s r).2.bad = false) : 1 ≤ r.l.length ∧ (rdSign s r).2.l.length = r.l.length - 1 ∧ r.bad = false := by
  have hb : r.bad = false := by
    cases hr : r.bad with
    | false => rfl
    | true => rw [sign_bad hr] at h; cases h
  obtain ⟨l, b⟩ := r
  cases l with
  | nil => cases h
  | cons c t =>
    unfold rdSign at h ⊢
    simp only at h ⊢ hb
    split at h
    · rename_i hc
      rw [if_pos hc]
      exact ⟨by simp, by simp, hb⟩
    · cases h
/-- the zone of the web -/
theorem zone_web (d : Dt) (rest : List UInt8) : toldC (rdZone ⟨rest, false⟩).2 d (rdZone ⟨rest, false⟩).1 = webZ d rest := by
  unfold rdZone webZ
  by_cases hz : rest = [90] ∨ rest = [122]
  · rw [if_pos hz, if_pos hz]; rfl
  · simp only
    rw [if_neg hz, if_neg hz]
    by_cases h6 : rest.length = 6
    · obtain ⟨a, b1, b2, c, d1, d2, rfl⟩ : ∃ a b1 b2 c d1 d2, rest = [a, b1, b2, c, d1, d2] := by
        match rest, h6 with
        | [a, b1, b2, c, d1, d2], _ => exact ⟨a, b1, b2, c, d1, d2, rfl⟩
      by_cases h3 : c = 58
      · subst h3
        rw [if_neg (by simp)]
        simp only [List.headD_cons, List.drop_succ_cons, List.drop_zero, List.take_succ_cons, List.take_zero]
        by_cases ha : ([43, 45] : List UInt8).contains a = true
        · have e1 := sign_of (t := [b1, b2, 58, d1, d2]) (b := false) ha
          by_cases hb : [b1, b2].all digB = true
          · have e2 := dig_of (w := 2) (l := [b1, b2]) (t := [58, d1, d2]) (b := false) rfl hb
            have e3 := sign_of (s := [58]) (c := 58) (t := [d1, d2]) (b := false) (by decide)
            by_cases hd : [d1, d2].all digB = true
            · have e4 := dig_of (w := 2) (l := [d1, d2]) (t := []) (b := false) rfl hd
              have n1 := num_pos hb (by simp) (by simp)
              have n2 := num_pos hd (by simp) (by simp)
              have i1 := numL_in hb
              have i2 := numL_in hd
              simp only [List.cons_append, List.nil_append] at e2 e4
              unfold rdOff rdColon
              simp only [e1, e2, e3, e4, if_true]
              unfold toldC zoneR
              rw [n1, n2]
              have ha2 : ¬ (a ≠ 43 ∧ a ≠ 45) := by
                rintro ⟨q1, q2⟩
                simp [q1, q2] at ha
              by_cases hr : 23 < numL [b1, b2] ∨ 59 < numL [d1, d2]
              · rw [if_neg (by rcases hr with hr | hr <;> simp [hr])]
                rw [if_pos (by rcases hr with hr | hr <;> simp [hr])]
              · have hr1 : ¬ 23 < numL [b1, b2] := fun q => hr (.inl q)
                have hr2 : ¬ 59 < numL [d1, d2] := fun q => hr (.inr q)
                rw [if_pos (by simp [hr1, hr2])]
                rw [if_neg (by
                  rintro (q | q | q | q | q | q | q)
                  · exact ha2 q
                  · exact q rfl
                  · exact q rfl
                  · omega
                  · omega
                  · omega
                  · omega)]
            · have hd' : [d1, d2].all digB = false := by simpa using hd
              have e4 := dig_not (w := 2) (l := [d1, d2]) (t := []) (b := false) rfl hd'
              have n2 := num_neg hd'
              have hzn : zoneR a [b1, b2] [d1, d2] = none := by unfold zoneR; rw [n2, if_pos (by omega)]
              rw [hzn]
              simp only [List.cons_append, List.nil_append] at e2 e4
              refine told_bad ?_
              unfold rdOff rdColon
              simp only [e1, e2, e3, if_true, e4, Bool.true_or]
          · have hb' : [b1, b2].all digB = false := by simpa using hb
            have e2 := dig_not (w := 2) (l := [b1, b2]) (t := [58, d1, d2]) (b := false) rfl hb'
            have n1 := num_neg hb'
            have hzn : zoneR a [b1, b2] [d1, d2] = none := by unfold zoneR; rw [n1, if_pos (by omega)]
            rw [hzn]
            simp only [List.cons_append, List.nil_append] at e2
            refine told_bad ?_
            unfold rdOff
            simp only [e1]
            rw [dig_bad (colon_bad e2), Bool.true_or]
        · have ha' : ([43, 45] : List UInt8).contains a = false := by simpa using ha
          have e1 := sign_not (t := [b1, b2, 58, d1, d2]) (b := false) ha'
          have hzn : zoneR a [b1, b2] [d1, d2] = none := by
            unfold zoneR
            rw [if_pos (.inl (by simp at ha'; exact ha'))]
          rw [hzn]
          refine told_bad ?_
          unfold rdOff
          simp only
          rw [dig_bad (colon_bad (dig_bad e1)), Bool.true_or]
      · rw [if_pos (.inr (by simpa using h3))]
        refine told_bad ?_
        have h3' : ([58] : List UInt8).contains c = false := by simpa using h3
        by_cases ha : ([43, 45] : List UInt8).contains a = true
        · have e1 := sign_of (t := [b1, b2, c, d1, d2]) (b := false) ha
          by_cases hb : [b1, b2].all digB = true
          · have e2 := dig_of (w := 2) (l := [b1, b2]) (t := [c, d1, d2]) (b := false) rfl hb
            have e3 := sign_not (s := [58]) (c := c) (t := [d1, d2]) (b := false) h3'
            simp only [List.cons_append, List.nil_append] at e2
            unfold rdOff rdColon
            simp only [e1, e2, if_true]
            rw [dig_bad e3, Bool.true_or]
          · have hb' : [b1, b2].all digB = false := by simpa using hb
            have e2 := dig_not (w := 2) (l := [b1, b2]) (t := [c, d1, d2]) (b := false) rfl hb'
            simp only [List.cons_append, List.nil_append] at e2
            unfold rdOff
            simp only [e1]
            rw [dig_bad (colon_bad e2), Bool.true_or]
        · have ha' : ([43, 45] : List UInt8).contains a = false := by simpa using ha
          have e1 := sign_not (t := [b1, b2, c, d1, d2]) (b := false) ha'
          unfold rdOff
          simp only
          rw [dig_bad (colon_bad (dig_bad e1)), Bool.true_or]
    · rw [if_pos (.inl h6)]
      unfold toldC
      rw [if_neg]
      intro hh
      simp only [Bool.and_eq_true, Bool.not_eq_true', List.isEmpty_iff] at hh
      obtain ⟨hb, hl⟩ := hh
      unfold rdOff at hb hl
      simp only [Bool.or_eq_false_iff] at hb hl
      have q1 := dig_len hb.1
      have q2 : (rdSign [58] (rdDig 2 (rdSign [43, 45] ⟨rest, false⟩).2).2).2.bad = false := q1.2.2
      have q3 := sign_len q2
      have q4 := dig_len q3.2.2
      have q5 := sign_len q4.2.2
      have q6 : (rdColon true (rdDig 2 (rdSign [43, 45] ⟨rest, false⟩).2).2) = (rdSign [58] (rdDig 2 (rdSign [43, 45] ⟨rest, false⟩).2).2).2 := rfl
      rw [q6] at q1 hl
      have q7 := congrArg List.length hl
      rw [List.length_nil] at q7
      simp only at q5
      omega
theorem point_web (rest : List UInt8) : (restR rest = none ∧ (rdPoint ⟨rest, false⟩).bad = true) ∨ ∃ r2, restR rest = some r2 ∧ rdPoint ⟨rest, false⟩ = ⟨r2, false⟩ := by
  unfold restR rdPoint
  by_cases hp : rest.head? = some 46
  · simp only [hp, if_true]
    by_cases h1 : 1 ≤ runL rest.tail ∧ runL rest.tail ≤ 9
    · rw [if_pos h1]
      exact .inr ⟨_, rfl, by simp [h1]⟩
    · rw [if_neg h1]
      refine .inl ⟨rfl, ?_⟩
      simp
      omega
  · simp only [hp, if_false]
    exact .inr ⟨_, rfl, rfl⟩
theorem len_cons {l : List UInt8} (h : 0 < l.length) : ∃ c t, l = c :: t := by
  cases l with
  | nil => simp at h
  | cons c t => exact ⟨c, t, rfl⟩
theorem dec19 (l : List UInt8) (h : 19 ≤ l.length) : ∃ y0 y1 y2 y3 a m0 m1 b d0 d1 c h0 h1 e i0 i1 f s0 s1 rest, l = y0 :: y1 :: y2 :: y3 :: a :: m0 :: m1 :: b :: d0 :: d1 :: c :: h0 :: h1 :: e :: i0 :: i1 :: f :: s0 :: s1 :: rest := by
  obtain ⟨x0, l1, rfl⟩ := len_cons (l := l) (by omega)
  obtain ⟨x1, l2, rfl⟩ := len_cons (l := l1) (by simp only [List.length_cons] at h; omega)
  obtain ⟨x2, l3, rfl⟩ := len_cons (l := l2) (by simp only [List.length_cons] at h; omega)
  obtain ⟨x3, l4, rfl⟩ := len_cons (l := l3) (by simp only [List.length_cons] at h; omega)
  obtain ⟨x4, l5, rfl⟩ := len_cons (l := l4) (by simp only [List.length_cons] at h; omega)
  obtain ⟨x5, l6, rfl⟩ := len_cons (l := l5) (by simp only [List.length_cons] at h; omega)
  obtain ⟨x6, l7, rfl⟩ := len_cons (l := l6) (by simp only [List.length_cons] at h; omega)
  obtain ⟨x7, l8, rfl⟩ := len_cons (l := l7) (by simp only [List.length_cons] at h; omega)
  obtain ⟨x8, l9, rfl⟩ := len_cons (l := l8) (by simp only [List.length_cons] at h; omega)
  obtain ⟨x9, l10, rfl⟩ := len_cons (l := l9) (by simp only [List.length_cons] at h; omega)
  obtain ⟨x10, l11, rfl⟩ := len_cons (l := l10) (by simp only [List.length_cons] at h; omega)
  obtain ⟨x11, l12, rfl⟩ := len_cons (l := l11) (by simp only [List.length_cons] at h; omega)
  obtain ⟨x12, l13, rfl⟩ := len_cons (l := l12) (by simp only [List.length_cons] at h; omega)
  obtain ⟨x13, l14, rfl⟩ := len_cons (l := l13) (by simp only [List.length_cons] at h; omega)
  obtain ⟨x14, l15, rfl⟩ := len_cons (l := l14) (by simp only [List.length_cons] at h; omega)
  obtain ⟨x15, l16, rfl⟩ := len_cons (l := l15) (by simp only [List.length_cons] at h; omega)
  obtain ⟨x16, l17, rfl⟩ := len_cons (l := l16) (by simp only [List.length_cons] at h; omega)
  obtain ⟨x17, l18, rfl⟩ := len_cons (l := l17) (by simp only [List.length_cons] at h; omega)
  obtain ⟨x18, l19, rfl⟩ := len_cons (l := l18) (by simp only [List.length_cons] at h; omega)
  exact ⟨x0, x1, x2, x3, x4, x5, x6, x7, x8, x9, x10, x11, x12, x13, x14, x15, x16, x17, x18, l19, rfl⟩
theorem web_bad {l : List UInt8} (h : (web6 l).2.bad = true) : webC l = none := told_bad (zone_bad (point_bad h))
theorem web_step5 {l : List UInt8} (h : (web5 l).2.bad = true) : (web6 l).2.bad = true := by unfold web6; exact dig_bad (sign_bad h)
theorem web_step4 {l : List UInt8} (h : (web4 l).2.bad = true) : (web5 l).2.bad = true := by unfold web5; exact dig_bad (sign_bad h)
theorem web_step3 {l : List UInt8} (h : (web3 l).2.bad = true) : (web4 l).2.bad = true := by unfold web4; exact dig_bad (sign_bad h)
theorem web_step2 {l : List UInt8} (h : (web2 l).2.bad = true) : (web3 l).2.bad = true := by unfold web3; exact dig_bad (sign_bad h)
theorem web_step1 {l : List UInt8} (h : (web1 l).2.bad = true) : (web2 l).2.bad = true := by unfold web2; exact dig_bad (sign_bad h)
theorem web6_bad1 {l : List UInt8} (h : (web1 l).2.bad = true) : (web6 l).2.bad = true := (web_step5 (web_step4 (web_step3 (web_step2 (web_step1 h)))))
theorem web6_bad2 {l : List UInt8} (h : (web2 l).2.bad = true) : (web6 l).2.bad = true := (web_step5 (web_step4 (web_step3 (web_step2 h))))
theorem web6_bad3 {l : List UInt8} (h : (web3 l).2.bad = true) : (web6 l).2.bad = true := (web_step5 (web_step4 (web_step3 h)))
theorem web6_bad4 {l : List UInt8} (h : (web4 l).2.bad = true) : (web6 l).2.bad = true := (web_step5 (web_step4 h))
theorem web6_bad5 {l : List UInt8} (h : (web5 l).2.bad = true) : (web6 l).2.bad = true := (web_step5 h)
theorem web_len1 {l : List UInt8} (h : (web1 l).2.bad = false) : 4 ≤ l.length ∧ (web1 l).2.l.length = l.length - 4 := by
  unfold web1 at h ⊢
  have := dig_len h
  exact ⟨this.1, this.2.1⟩
theorem web_len2 {l : List UInt8} (h : (web2 l).2.bad = false) : 7 ≤ l.length ∧ (web2 l).2.l.length = l.length - 7 := by
  unfold web2 at h ⊢
  have h1 := dig_len h
  have h2 := sign_len h1.2.2
  have h3 := web_len1 h2.2.2
  omega
theorem web_len3 {l : List UInt8} (h : (web3 l).2.bad = false) : 10 ≤ l.length ∧ (web3 l).2.l.length = l.length - 10 := by
  unfold web3 at h ⊢
  have h1 := dig_len h
  have h2 := sign_len h1.2.2
  have h3 := web_len2 h2.2.2
  omega
theorem web_len4 {l : List UInt8} (h : (web4 l).2.bad = false) : 13 ≤ l.length ∧ (web4 l).2.l.length = l.length - 13 := by
  unfold web4 at h ⊢
  have h1 := dig_len h
  have h2 := sign_len h1.2.2
  have h3 := web_len3 h2.2.2
  omega
theorem web_len5 {l : List UInt8} (h : (web5 l).2.bad = false) : 16 ≤ l.length ∧ (web5 l).2.l.length = l.length - 16 := by
  unfold web5 at h ⊢
  have h1 := dig_len h
  have h2 := sign_len h1.2.2
  have h3 := web_len4 h2.2.2
  omega
theorem web_len6 {l : List UInt8} (h : (web6 l).2.bad = false) : 19 ≤ l.length ∧ (web6 l).2.l.length = l.length - 19 := by
  unfold web6 at h ⊢
  have h1 := dig_len h
  have h2 := sign_len h1.2.2
  have h3 := web_len5 h2.2.2
  omega
theorem web6_len {l : List UInt8} (h : (web6 l).2.bad = false) : 19 ≤ l.length ∧ (web6 l).2.l.length = l.length - 19 := web_len6 h
theorem all_false {l : List UInt8} (h : ¬ l.all digB = true) : l.all digB = false := by
  cases hh : l.all digB with
  | false => rfl
  | true => exact absurd hh h
theorem cont_false {s : List UInt8} {c : UInt8} (h : ¬ s.contains c = true) : s.contains c = false := by
  cases hh : s.contains c with
  | false => rfl
  | true => exact absurd hh h
theorem dt_bad_y {y m d h mi s : Int} (hy : y = -1) : (⟨y, m, d, h, mi, s⟩ : Dt).ok = false := by
  cases hh : (⟨y, m, d, h, mi, s⟩ : Dt).ok with
  | false => rfl
  | true => have := (ok_ym hh).1; simp only at this; omega
theorem dt_bad_m {y m d h mi s : Int} (hy : m = -1) : (⟨y, m, d, h, mi, s⟩ : Dt).ok = false := by
  cases hh : (⟨y, m, d, h, mi, s⟩ : Dt).ok with
  | false => rfl
  | true => have := (ok_ym hh).2.2.1; simp only at this; omega
theorem dt_bad_o {y m d h mi s : Int} (hy : d = -1 ∨ h = -1 ∨ mi = -1 ∨ s = -1) : (⟨y, m, d, h, mi, s⟩ : Dt).ok = false := by
  cases hh : (⟨y, m, d, h, mi, s⟩ : Dt).ok with
  | false => rfl
  | true => have := (ok_iff _).1 hh; simp only at this; omega
theorem webZ_bad {d : Dt} (h : d.ok = false) (rest : List UInt8) : webZ d rest = none := by
  unfold webZ
  split
  · exact told_no h _
  · split
    · rfl
    · split
      · rfl
      · exact told_no h _
theorem webR_bad {l : List UInt8} (h : (webD l).ok = false) : webR l = none := by
  unfold webR
  split
  · rfl
  · split
    · rfl
    · exact webZ_bad h _
/-- a date of the web: as the code reads it, so the document -/
theorem web_same (l : List UInt8) : webC l = webR l := by
  by_cases h19 : l.length < 19
  · have hb : (web6 l).2.bad = true := by
      cases hh : (web6 l).2.bad with
      | true => rfl
      | false => have := web6_len hh; omega
    rw [web_bad hb]
    unfold webR
    rw [if_pos (by omega)]
  obtain ⟨y0, y1, y2, y3, a, m0, m1, b, d0, d1, c, h0, h1, e, i0, i1, f, s0, s1, rest, rfl⟩ := dec19 l (by omega)
  clear h19
  generalize hL : y0 :: y1 :: y2 :: y3 :: a :: m0 :: m1 :: b :: d0 :: d1 :: c :: h0 :: h1 :: e :: i0 :: i1 :: f :: s0 :: s1 :: rest = L
  have D : webD L = ⟨numR [y0, y1, y2, y3], numR [m0, m1], numR [d0, d1], numR [h0, h1], numR [i0, i1], numR [s0, s1]⟩ := by rw [← hL]; rfl
  have len : L.length = 19 + rest.length := by rw [← hL]; simp; omega
  have g4 : L[4]? = some a := by rw [← hL]; rfl
  have g7 : L[7]? = some b := by rw [← hL]; rfl
  have g10 : L[10]? = some c := by rw [← hL]; rfl
  have g13 : L[13]? = some e := by rw [← hL]; rfl
  have g16 : L[16]? = some f := by rw [← hL]; rfl
  have gr : L.drop 19 = rest := by rw [← hL]; rfl
  by_cases q1_ : ¬ ([y0, y1, y2, y3].all digB = true)
  · have q1 := q1_
    have n1 := num_neg (all_false q1)
    rw [web_bad (web6_bad1 (by rw [← hL]; exact dig_not (w := 4) rfl (all_false q1))), webR_bad (by rw [D]; exact dt_bad_y n1)]
  have q1 := Decidable.not_not.1 q1_
  have w1 : web1 L = (numL [y0, y1, y2, y3], ⟨a :: m0 :: m1 :: b :: d0 :: d1 :: c :: h0 :: h1 :: e :: i0 :: i1 :: f :: s0 :: s1 :: rest, false⟩) := by rw [← hL]; exact dig_of (w := 4) rfl q1
  by_cases qa_ : ¬ (([45] : List UInt8).contains a = true)
  · have qa := qa_
    have na : a ≠ 45 := by intro q; subst q; exact qa (by decide)
    have hb : (web2 L).2.bad = true := by unfold web2; rw [w1]; exact dig_bad (sign_not (cont_false qa))
    rw [web_bad (web6_bad2 hb)]
    unfold webR
    rw [if_pos (by rw [g4]; exact .inr (.inl (by simpa using na)))]
  have qa := Decidable.not_not.1 qa_
  have ea : a = 45 := by simpa using qa
  by_cases q2_ : ¬ ([m0, m1].all digB = true)
  · have q2 := q2_
    have n1 := num_neg (all_false q2)
    have hb : (web2 L).2.bad = true := by unfold web2; rw [w1]; simp only [sign_of qa]; exact dig_not (w := 2) rfl (all_false q2)
    rw [web_bad (web6_bad2 hb), webR_bad (by rw [D]; exact dt_bad_m n1)]
  have q2 := Decidable.not_not.1 q2_
  have w2 : web2 L = (numL [m0, m1], ⟨b :: d0 :: d1 :: c :: h0 :: h1 :: e :: i0 :: i1 :: f :: s0 :: s1 :: rest, false⟩) := by unfold web2; rw [w1]; simp only [sign_of qa]; exact dig_of (w := 2) rfl q2
  by_cases qb_ : ¬ (([45] : List UInt8).contains b = true)
  · have qb := qb_
    have na : b ≠ 45 := by intro q; subst q; exact qb (by decide)
    have hb : (web3 L).2.bad = true := by unfold web3; rw [w2]; exact dig_bad (sign_not (cont_false qb))
    rw [web_bad (web6_bad3 hb)]
    unfold webR
    rw [if_pos (by rw [g7]; exact .inr (.inr (.inl (by simpa using na))))]
  have qb := Decidable.not_not.1 qb_
  have eb : b = 45 := by simpa using qb
  by_cases q3_ : ¬ ([d0, d1].all digB = true)
  · have q3 := q3_
    have n1 := num_neg (all_false q3)
    have hb : (web3 L).2.bad = true := by unfold web3; rw [w2]; simp only [sign_of qb]; exact dig_not (w := 2) rfl (all_false q3)
    rw [web_bad (web6_bad3 hb), webR_bad (by rw [D]; exact dt_bad_o (.inl n1))]
  have q3 := Decidable.not_not.1 q3_
  have w3 : web3 L = (numL [d0, d1], ⟨c :: h0 :: h1 :: e :: i0 :: i1 :: f :: s0 :: s1 :: rest, false⟩) := by unfold web3; rw [w2]; simp only [sign_of qb]; exact dig_of (w := 2) rfl q3
  by_cases qc_ : ¬ (([84, 116] : List UInt8).contains c = true)
  · have qc := qc_
    have na : c ≠ 84 ∧ c ≠ 116 := by simpa using qc
    have hb : (web4 L).2.bad = true := by unfold web4; rw [w3]; exact dig_bad (sign_not (cont_false qc))
    rw [web_bad (web6_bad4 hb)]
    unfold webR
    rw [if_pos (by rw [g10]; exact .inr (.inr (.inr (.inl (by simpa using na)))))]
  have qc := Decidable.not_not.1 qc_
  have ec : c = 84 ∨ c = 116 := by simpa using qc
  by_cases q4_ : ¬ ([h0, h1].all digB = true)
  · have q4 := q4_
    have n1 := num_neg (all_false q4)
    have hb : (web4 L).2.bad = true := by unfold web4; rw [w3]; simp only [sign_of qc]; exact dig_not (w := 2) rfl (all_false q4)
    rw [web_bad (web6_bad4 hb), webR_bad (by rw [D]; exact dt_bad_o (.inr (.inl n1)))]
  have q4 := Decidable.not_not.1 q4_
  have w4 : web4 L = (numL [h0, h1], ⟨e :: i0 :: i1 :: f :: s0 :: s1 :: rest, false⟩) := by unfold web4; rw [w3]; simp only [sign_of qc]; exact dig_of (w := 2) rfl q4
  by_cases qe_ : ¬ (([58] : List UInt8).contains e = true)
  · have qe := qe_
    have na : e ≠ 58 := by intro q; subst q; exact qe (by decide)
    have hb : (web5 L).2.bad = true := by unfold web5; rw [w4]; exact dig_bad (sign_not (cont_false qe))
    rw [web_bad (web6_bad5 hb)]
    unfold webR
    rw [if_pos (by rw [g13]; exact .inr (.inr (.inr (.inr (.inl (by simpa using na))))))]
  have qe := Decidable.not_not.1 qe_
  have ee : e = 58 := by simpa using qe
  by_cases q5_ : ¬ ([i0, i1].all digB = true)
  · have q5 := q5_
    have n1 := num_neg (all_false q5)
    have hb : (web5 L).2.bad = true := by unfold web5; rw [w4]; simp only [sign_of qe]; exact dig_not (w := 2) rfl (all_false q5)
    rw [web_bad (web6_bad5 hb), webR_bad (by rw [D]; exact dt_bad_o (.inr (.inr (.inl n1))))]
  have q5 := Decidable.not_not.1 q5_
  have w5 : web5 L = (numL [i0, i1], ⟨f :: s0 :: s1 :: rest, false⟩) := by unfold web5; rw [w4]; simp only [sign_of qe]; exact dig_of (w := 2) rfl q5
  by_cases qf_ : ¬ (([58] : List UInt8).contains f = true)
  · have qf := qf_
    have na : f ≠ 58 := by intro q; subst q; exact qf (by decide)
    have hb : (web6 L).2.bad = true := by unfold web6; rw [w5]; exact dig_bad (sign_not (cont_false qf))
    rw [web_bad hb]
    unfold webR
    rw [if_pos (by rw [g16]; exact .inr (.inr (.inr (.inr (.inr (by simpa using na))))))]
  have qf := Decidable.not_not.1 qf_
  have ef : f = 58 := by simpa using qf
  by_cases q6_ : ¬ ([s0, s1].all digB = true)
  · have q6 := q6_
    have n1 := num_neg (all_false q6)
    have hb : (web6 L).2.bad = true := by unfold web6; rw [w5]; simp only [sign_of qf]; exact dig_not (w := 2) rfl (all_false q6)
    rw [web_bad hb, webR_bad (by rw [D]; exact dt_bad_o (.inr (.inr (.inr n1))))]
  have q6 := Decidable.not_not.1 q6_
  have w6 : web6 L = (numL [s0, s1], ⟨rest, false⟩) := by unfold web6; rw [w5]; simp only [sign_of qf]; exact dig_of (w := 2) rfl q6
  have D2 : webD L = ⟨(web1 L).1, (web2 L).1, (web3 L).1, (web4 L).1, (web5 L).1, (web6 L).1⟩ := by
    rw [D, w1, w2, w3, w4, w5, w6, num_pos q1 (by simp) (by simp), num_pos q2 (by simp) (by simp), num_pos q3 (by simp) (by simp), num_pos q4 (by simp) (by simp), num_pos q5 (by simp) (by simp), num_pos q6 (by simp) (by simp)]
  unfold webC
  rw [← D2, w6]
  simp only
  by_cases hr : rest = []
  · subst hr
    unfold webR
    rw [if_pos (by rw [len]; simp)]
    exact told_bad (by decide)
  · have hl : 1 ≤ rest.length := List.length_pos_iff.2 hr
    unfold webR
    rw [if_neg (by
      rw [g4, g7, g10, g13, g16, len, ea, eb, ee, ef]
      rcases ec with ec | ec <;> subst ec <;> simp <;> omega), gr]
    rcases point_web rest with ⟨p1, p2⟩ | ⟨r2, p1, p2⟩
    · rw [p1]
      exact told_bad (zone_bad p2)
    · rw [p1, p2]
      exact zone_web _ r2
end Go.Proofs.Ytjmmgekildlckaa
