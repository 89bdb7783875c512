/-
  Documents as tokens, in plain Lean: names, attributes, parts, tokens, their text.
-/
import Derived.Test.YtjmmgekildlckaaEntP
namespace Go.Nst
set_option linter.unusedVariables false
set_option linter.unusedSimpArgs false

structure Xat where
  nm : List UInt8
  vl : List UInt8
deriving DecidableEq, Inhabited
structure Xtk where
  kd : Int
  nm : List UInt8
  ats : List Xat
  tx : List UInt8
deriving DecidableEq, Inhabited

def begB (c : UInt8) : Bool := (decide (65 ≤ c.toNat) && decide (c.toNat ≤ 90)) || (decide (97 ≤ c.toNat) && decide (c.toNat ≤ 122)) || c.toNat == 95
def goB (c : UInt8) : Bool := begB c || (decide (48 ≤ c.toNat) && decide (c.toNat ≤ 57)) || c.toNat == 58 || c.toNat == 45 || c.toNat == 46
def blkB (c : UInt8) : Bool := c.toNat == 32 || c.toNat == 9 || c.toNat == 13 || c.toNat == 10
def txtB (c : UInt8) : Bool := c.toNat != 60

/-- a row of bytes that is a name's -/
def nmB (n : List UInt8) : Bool := (match n with | [] => false | c :: _ => begB c) && decide (n.length ≤ 64)
/-- the name with which a text begins, and what is behind it -/
def nameD (l : List UInt8) : Option (List UInt8 × List UInt8) := if nmB (l.takeWhile goB) then some (l.takeWhile goB, l.dropWhile goB) else none
def isName (l : List UInt8) : Bool := nmB l && l.all goB
/-- a value: what is between two quotes -/
def valD (l : List UInt8) : Option (List UInt8 × List UInt8) :=
  match l with
  | [] => none
  | q :: r => if q = 34 ∨ q = 39 then (if (Lib.cut r [q]).2.2 = true ∧ (60 : UInt8) ∉ (Lib.cut r [q]).1 then some (readL (Lib.cut r [q]).1, (Lib.cut r [q]).2.1) else none) else none
def attrD (l : List UInt8) : Option (Xat × List UInt8) :=
  match nameD l with
  | none => none
  | some (n, r) =>
    match r.dropWhile blkB with
    | [] => none
    | c :: t => if c = 61 then (match valD (t.dropWhile blkB) with | none => none | some (v, b) => some (⟨n, v⟩, b)) else none
/-- what is behind the name of a tag that opens; 'k': how many attributes may come -/
def openD (n : List UInt8) : Nat → List Xat → List UInt8 → Option (List Xtk × List UInt8)
  | k, ats, l =>
    if Lib.hasPrefix (l.dropWhile blkB) [62] then some ([⟨1, n, ats, []⟩], (l.dropWhile blkB).drop 1)
    else if Lib.hasPrefix (l.dropWhile blkB) [47, 62] then some ([⟨1, n, ats, []⟩, ⟨2, n, [], []⟩], (l.dropWhile blkB).drop 2)
    else if (l.takeWhile blkB) = [] then none
    else match attrD (l.dropWhile blkB) with
      | none => none
      | some (a, b) =>
        match k with
        | 0 => none
        | k + 1 => if ats.any (fun x => x.nm == a.nm) then none else openD n k (ats ++ [a]) b
def uptoD (l sep : List UInt8) : Option (List UInt8 × List UInt8) := if (Lib.cut l sep).2.2 then some ((Lib.cut l sep).1, (Lib.cut l sep).2.1) else none
/-- the first part of a text that is not empty -/
def partD (l : List UInt8) : Option (List Xtk × List UInt8) :=
  if Lib.hasPrefix l [60, 33, 45, 45] then (match uptoD (l.drop 4) [45, 45, 62] with | none => none | some (_, b) => some ([], b))
  else if Lib.hasPrefix l [60, 63] then (match uptoD (l.drop 2) [63, 62] with | none => none | some (_, b) => some ([], b))
  else if Lib.hasPrefix l [60, 33, 68, 79, 67, 84, 89, 80, 69] then (match uptoD (l.drop 9) [62] with | none => none | some (a, b) => if (91 : UInt8) ∈ a then none else some ([], b))
  else if Lib.hasPrefix l [60, 33, 91, 67, 68, 65, 84, 65, 91] then (match uptoD (l.drop 9) [93, 93, 62] with | none => none | some (a, b) => some ([⟨3, [], [], a⟩], b))
  else if Lib.hasPrefix l [60, 47] then (match nameD (l.drop 2) with
    | none => none
    | some (n, r) => match r.dropWhile blkB with | [] => none | c :: t => if c = 62 then some ([⟨2, n, [], []⟩], t) else none)
  else if Lib.hasPrefix l [60] then (match nameD (l.drop 1) with | none => none | some (n, r) => openD n 32 [] r)
  else some ([⟨3, [], [], readL (l.takeWhile txtB)⟩], l.dropWhile txtB)

/-- a token more; texts become one -/
def addT (out : List Xtk) (t : Xtk) : List Xtk :=
  if t.kd = 3 then
    if t.tx = [] then out
    else match out.getLast? with
      | some u => if u.kd = 3 then out.dropLast ++ [⟨u.kd, u.nm, u.ats, u.tx ++ t.tx⟩] else out ++ [t]
      | none => out ++ [t]
  else out ++ [t]
abbrev XRes := List Xtk × Int × Int
/-- the tokens of what is left of N bytes -/
def tokF (N : Nat) : Nat → List Xtk → List UInt8 → XRes
  | _, out, [] => (out, (N : Int), 0)
  | 0, out, c :: l => (out, (N : Int), 0)
  | f + 1, out, c :: l =>
    match partD (c :: l) with
    | none => ([], (N : Int) - ((c :: l).length : Int), 80)
    | some (ts, b) => if 8192 < (ts.foldl addT out).length then ([], (N : Int) - ((c :: l).length : Int), 3) else tokF N f (ts.foldl addT out) b
def tokD (s : List UInt8) : XRes := if 65536 < s.length then ([], 0, 3) else tokF s.length s.length [] s

def attrsOk (l : List Xat) : Bool := l.all (fun a => isName a.nm) && decide ((l.map Xat.nm).Nodup) && decide (l.length ≤ 32)
def mayT (t : Xtk) (was : Int) : Bool :=
  if t.kd = 1 then isName t.nm && (t.tx == []) && attrsOk t.ats
  else if t.kd = 2 then isName t.nm && (t.tx == []) && (t.ats == [])
  else if t.kd = 3 then (t.nm == []) && !(t.tx == []) && (t.ats == []) && !(was == 3)
  else false
def mayD : Int → List Xtk → Bool
  | _, [] => true
  | was, t :: l => mayT t was && mayD t.kd l
def wrA (a : Xat) : List UInt8 := [32] ++ a.nm ++ [61, 34] ++ writeL a.vl ++ [34]
def wrT (t : Xtk) : List UInt8 :=
  if t.kd = 1 then [60] ++ t.nm ++ t.ats.flatMap wrA ++ [62]
  else if t.kd = 2 then [60, 47] ++ t.nm ++ [62]
  else writeL t.tx
def wrD (l : List Xtk) : List UInt8 := l.flatMap wrT

/-! bits on rows of bytes -/
theorem take_append_stop {p : UInt8 → Bool} : ∀ {a : List UInt8} (hl : a.all p = true) (c : UInt8) (t : List UInt8), p c = false → (a ++ c :: t).takeWhile p = a ∧ (a ++ c :: t).dropWhile p = c :: t
  | [], _, c, t, hc => by simp [hc]
  | x :: a, hl, c, t, hc => by
    simp only [List.all_cons, Bool.and_eq_true] at hl
    have := take_append_stop hl.2 c t hc
    simp [hl.1, this.1, this.2]
theorem take_all {p : UInt8 → Bool} : ∀ {a : List UInt8} (hl : a.all p = true), a.takeWhile p = a ∧ a.dropWhile p = []
  | [], _ => by simp
  | x :: a, hl => by
    simp only [List.all_cons, Bool.and_eq_true] at hl
    have := take_all hl.2
    simp [hl.1, this.1, this.2]
/-- all, or up to one for which it holds not -/
theorem span_cases (p : UInt8 → Bool) (l : List UInt8) : (l.all p = true ∧ l.takeWhile p = l ∧ l.dropWhile p = []) ∨ (∃ a c t, l = a ++ c :: t ∧ a.all p = true ∧ p c = false ∧ l.takeWhile p = a ∧ l.dropWhile p = c :: t) := by
  induction l with
  | nil => simp
  | cons x l ih =>
    by_cases hx : p x = true
    · rcases ih with ⟨h1, h2, h3⟩ | ⟨a, c, t, h1, h2, h3, h4, h5⟩
      · left
        simp [hx, h1, h2, h3]
      · right
        exact ⟨x :: a, c, t, by rw [h1]; rfl, by simp [hx, h2], h3, by simp [hx, h4], by simp [hx, h5]⟩
    · right
      exact ⟨[], x, l, rfl, rfl, by simpa using hx, by simp [hx], by simp [hx]⟩
theorem drop_app_stop {p : UInt8 → Bool} {l : List UInt8} {c : UInt8} {r : List UInt8} (h : l.dropWhile p = c :: r) (t : List UInt8) : (l ++ t).takeWhile p = l.takeWhile p ∧ (l ++ t).dropWhile p = c :: (r ++ t) := by
  rcases span_cases p l with ⟨h1, h2, h3⟩ | ⟨a, c', t', h1, h2, h3, h4, h5⟩
  · rw [h3] at h; cases h
  · rw [h5] at h
    injection h with e1 e2
    subst e1 e2
    rw [h4, h1, List.append_assoc, List.cons_append]
    exact take_append_stop h2 _ _ h3

theorem index_app {s sub t : List UInt8} (h : 0 ≤ Lib.index s sub) : Lib.index (s ++ t) sub = Lib.index s sub := by
  rcases Lib.index_spec s sub with ⟨h1, _⟩ | ⟨i, h1, h2, h3, h4⟩
  · omega
  · rw [h1]
    have occ : ∀ j, j ≤ s.length → Lib.occAt s sub j = true → Lib.occAt (s ++ t) sub j = true := by
      intro j hj ho
      simp only [Lib.occAt] at ho ⊢
      rw [List.drop_append_of_le_length hj]
      rw [List.isPrefixOf_iff_prefix] at ho ⊢
      exact ho.trans (List.prefix_append _ _)
    refine Lib.index_first (by rw [List.length_append]; omega) (occ i h2 h3) ?_
    intro j hj
    have hno := h4 j hj
    rcases hb : Lib.occAt (s ++ t) sub j with _ | _
    · rfl
    · exfalso
      have hroom := Lib.index_room s sub h
      rw [h1] at hroom
      simp only [Lib.occAt] at hb hno
      rw [List.drop_append_of_le_length (by omega), List.isPrefixOf_iff_prefix] at hb
      have : sub <+: s.drop j := List.prefix_of_prefix_length_le hb (List.prefix_append _ _) (by rw [List.length_drop]; omega)
      rw [← List.isPrefixOf_iff_prefix, hno] at this
      cases this
theorem cut_app {s sep t : List UInt8} (h : (Lib.cut s sep).2.2 = true) : Lib.cut (s ++ t) sep = ((Lib.cut s sep).1, (Lib.cut s sep).2.1 ++ t, true) := by
  unfold Lib.cut at h ⊢
  by_cases hi : 0 ≤ Lib.index s sep
  · have hr := Lib.index_room s sep hi
    rw [index_app hi, if_pos hi, if_pos hi]
    simp only
    rw [List.take_append_of_le_length (by omega), List.drop_append_of_le_length (by omega)]
  · rw [if_neg hi] at h
    cases h
theorem index_head {n t sep : List UInt8} {c : UInt8} (h : c ∉ n) : Lib.index (n ++ (c :: sep) ++ t) (c :: sep) = n.length := by
  refine Lib.index_first (by rw [List.length_append, List.length_append]; omega) ?_ ?_
  · simp only [Lib.occAt]
    rw [List.append_assoc, List.drop_left, List.isPrefixOf_iff_prefix]
    exact List.prefix_append _ _
  · intro j hj
    rcases hb : Lib.occAt (n ++ (c :: sep) ++ t) (c :: sep) j with _ | _
    · rfl
    · exfalso
      simp only [Lib.occAt] at hb
      rw [List.append_assoc, List.drop_append_of_le_length (by omega), List.drop_eq_getElem_cons hj, List.cons_append] at hb
      simp only [List.isPrefixOf, Bool.and_eq_true, beq_iff_eq] at hb
      exact h (hb.1 ▸ List.getElem_mem hj)
theorem cut_head {n t sep : List UInt8} {c : UInt8} (h : c ∉ n) : Lib.cut (n ++ (c :: sep) ++ t) (c :: sep) = (n, t, true) := by
  unfold Lib.cut
  rw [index_head h, if_pos (by omega)]
  simp only [Int.toNat_natCast]
  rw [List.append_assoc, List.take_left]
  congr 2
  rw [← List.append_assoc, show n.length + (c :: sep).length = (n ++ c :: sep).length by simp, List.drop_left]
theorem cut_len {s sep : List UInt8} (h : (Lib.cut s sep).2.2 = true) : (Lib.cut s sep).1.length + sep.length + (Lib.cut s sep).2.1.length = s.length := by
  unfold Lib.cut at h ⊢
  by_cases hi : 0 ≤ Lib.index s sep
  · have hr := Lib.index_room s sep hi
    rw [if_pos hi]
    simp only [List.length_take, List.length_drop]
    omega
  · rw [if_neg hi] at h
    cases h
theorem has_app {l p t : List UInt8} (h : Lib.hasPrefix l p = true) : Lib.hasPrefix (l ++ t) p = true := by
  unfold Lib.hasPrefix at *
  rw [List.isPrefixOf_iff_prefix] at *
  exact h.trans (List.prefix_append _ _)
theorem has_len {l p : List UInt8} (h : Lib.hasPrefix l p = true) : p.length ≤ l.length := by
  unfold Lib.hasPrefix at *
  rw [List.isPrefixOf_iff_prefix] at *
  exact h.length_le
theorem has_iff {l p : List UInt8} : Lib.hasPrefix l p = true ↔ ∃ t, l = p ++ t := by
  unfold Lib.hasPrefix
  rw [List.isPrefixOf_iff_prefix]
  constructor
  · rintro ⟨t, rfl⟩; exact ⟨t, rfl⟩
  · rintro ⟨t, rfl⟩; exact ⟨t, rfl⟩

/-! a part with more behind it -/
theorem nameD_app {l n r : List UInt8} {c : UInt8} (h : nameD l = some (n, c :: r)) (t : List UInt8) : nameD (l ++ t) = some (n, c :: (r ++ t)) := by
  unfold nameD at *
  by_cases hn : nmB (l.takeWhile goB) = true
  · rw [if_pos hn] at h
    injection h with h
    injection h with h1 h2
    have := drop_app_stop h2 t
    rw [this.1, this.2, if_pos hn, h1]
  · rw [if_neg hn] at h
    cases h
theorem valD_app {l v r : List UInt8} (h : valD l = some (v, r)) (t : List UInt8) : valD (l ++ t) = some (v, r ++ t) := by
  cases l with
  | nil => cases h
  | cons q l =>
    simp only [valD, List.cons_append] at h ⊢
    by_cases hq : q = 34 ∨ q = 39
    · rw [if_pos hq] at h ⊢
      by_cases hc : (Lib.cut l [q]).2.2 = true ∧ (60 : UInt8) ∉ (Lib.cut l [q]).1
      · rw [if_pos hc] at h
        injection h with h
        injection h with h1 h2
        rw [cut_app hc.1, if_pos ⟨rfl, hc.2⟩, h1, h2]
      · rw [if_neg hc] at h
        cases h
    · rw [if_neg hq] at h
      cases h
theorem drop_ne_nil {p : UInt8 → Bool} {l : List UInt8} {c : UInt8} {r : List UInt8} (h : l.dropWhile p = c :: r) : ∃ d s, l = d :: s := by
  cases l with
  | nil => cases h
  | cons d s => exact ⟨d, s, rfl⟩
theorem attrD_app {l b : List UInt8} {a : Xat} (h : attrD l = some (a, b)) (t : List UInt8) : attrD (l ++ t) = some (a, b ++ t) := by
  unfold attrD at *
  rcases hn : nameD l with _ | ⟨n, r⟩
  · rw [hn] at h; cases h
  · rw [hn] at h
    simp only at h
    rcases hr : r.dropWhile blkB with _ | ⟨c, u⟩
    · rw [hr] at h; cases h
    · rw [hr] at h
      simp only at h
      obtain ⟨d, s, rfl⟩ := drop_ne_nil hr
      rw [nameD_app hn t]
      simp only
      rw [← List.cons_append, (drop_app_stop hr t).2]
      simp only
      by_cases hc : c = 61
      · rw [if_pos hc] at h ⊢
        rcases hv : valD (u.dropWhile blkB) with _ | ⟨v, b'⟩
        · rw [hv] at h; cases h
        · rw [hv] at h
          simp only at h
          injection h with h
          injection h with h1 h2
          subst h2
          rcases hu : u.dropWhile blkB with _ | ⟨q, u'⟩
          · rw [hu] at hv; cases hv
          · rw [(drop_app_stop hu t).2, ← List.cons_append, ← hu, valD_app hv t, ← h1]
      · rw [if_neg hc] at h
        cases h
theorem has_nil {p : List UInt8} (h : Lib.hasPrefix [] p = true) : p = [] := by
  cases p with
  | nil => rfl
  | cons c t => cases h
theorem has1_app {d : UInt8} {c : UInt8} {r t : List UInt8} : Lib.hasPrefix (c :: r ++ t) [d] = Lib.hasPrefix (c :: r) [d] := by simp [Lib.hasPrefix, List.isPrefixOf]
theorem openD_app {n : List UInt8} : ∀ (k : Nat) {ats : List Xat} {l b : List UInt8} {ts : List Xtk} (h : openD n k ats l = some (ts, b)) (t : List UInt8), openD n k ats (l ++ t) = some (ts, b ++ t) := by
  intro k
  induction k with
  | zero =>
    intro ats l b ts h t
    unfold openD at *
    rcases hd : l.dropWhile blkB with _ | ⟨c, r⟩
    · rw [hd] at h
      simp [Lib.hasPrefix, List.isPrefixOf, attrD, nameD, nmB] at h
    · have hA := drop_app_stop hd t
      rw [hd] at h
      rw [hA.1, hA.2, ← List.cons_append]
      by_cases h1 : Lib.hasPrefix (c :: r) [62] = true
      · rw [if_pos h1] at h
        rw [if_pos (has_app h1)]
        injection h with h
        injection h with e1 e2
        subst e1 e2
        rfl
      · rw [if_neg h1] at h
        rw [if_neg (by rw [has1_app]; exact h1)]
        by_cases h2 : Lib.hasPrefix (c :: r) [47, 62] = true
        · rw [if_pos h2] at h
          rw [if_pos (has_app h2)]
          injection h with h
          injection h with e1 e2
          subst e1 e2
          rw [List.drop_append_of_le_length (show 2 ≤ (c :: r).length from has_len h2)]
        · rw [if_neg h2] at h
          exfalso
          split at h
          · cases h
          · split at h <;> cases h
  | succ k ih =>
    intro ats l b ts h t
    unfold openD at h ⊢
    rcases hd : l.dropWhile blkB with _ | ⟨c, r⟩
    · rw [hd] at h
      simp [Lib.hasPrefix, List.isPrefixOf, attrD, nameD, nmB] at h
    · have hA := drop_app_stop hd t
      rw [hd] at h
      rw [hA.1, hA.2, ← List.cons_append]
      by_cases h1 : Lib.hasPrefix (c :: r) [62] = true
      · rw [if_pos h1] at h
        rw [if_pos (has_app h1)]
        injection h with h
        injection h with e1 e2
        subst e1 e2
        rfl
      · rw [if_neg h1] at h
        rw [if_neg (by rw [has1_app]; exact h1)]
        by_cases h2 : Lib.hasPrefix (c :: r) [47, 62] = true
        · rw [if_pos h2] at h
          rw [if_pos (has_app h2)]
          injection h with h
          injection h with e1 e2
          subst e1 e2
          rw [List.drop_append_of_le_length (show 2 ≤ (c :: r).length from has_len h2)]
        · rw [if_neg h2] at h
          by_cases h3 : l.takeWhile blkB = []
          · rw [if_pos h3] at h; cases h
          rw [if_neg h3] at h ⊢
          rcases ha : attrD (c :: r) with _ | ⟨a, b'⟩
          · rw [ha] at h; cases h
          rw [ha] at h
          have h2' : ¬ Lib.hasPrefix (c :: r ++ t) [47, 62] = true := by
            intro hh
            obtain ⟨u, hu⟩ := has_iff.1 hh
            cases r with
            | nil =>
              injection hu with e1 e2
              subst e1
              cases ha
            | cons d r =>
              injection hu with e1 e2
              injection e2 with e2 e3
              subst e1 e2
              exact h2 (by simp [Lib.hasPrefix, List.isPrefixOf])
          rw [if_neg h2', attrD_app ha t]
          simp only at h ⊢
          by_cases h4 : (ats.any fun x => x.nm == a.nm) = true
          · rw [if_pos h4] at h; cases h
          rw [if_neg h4] at h ⊢
          exact ih h t

theorem uptoD_app {l sep a b : List UInt8} (h : uptoD l sep = some (a, b)) (t : List UInt8) : uptoD (l ++ t) sep = some (a, b ++ t) := by
  unfold uptoD at *
  by_cases hc : (Lib.cut l sep).2.2 = true
  · rw [if_pos hc] at h
    injection h with h
    injection h with h1 h2
    rw [cut_app hc, if_pos rfl, h1, h2]
  · rw [if_neg hc] at h
    cases h
/-- what begins with '<' and is no remark.. yet may not become one by what stands behind it, if it is a part -/
theorem has_app_not {l p t : List UInt8} (hl : p.length ≤ l.length) (h : ¬ Lib.hasPrefix l p = true) : ¬ Lib.hasPrefix (l ++ t) p = true := by
  intro hh
  apply h
  unfold Lib.hasPrefix at *
  rw [List.isPrefixOf_iff_prefix] at *
  exact List.prefix_of_prefix_length_le hh (List.prefix_append _ _) hl
theorem has_cons {c d : UInt8} {l p : List UInt8} : Lib.hasPrefix (c :: l) (d :: p) = (d == c && Lib.hasPrefix l p) := by simp [Lib.hasPrefix, List.isPrefixOf]
theorem nameD_head {l n r : List UInt8} (h : nameD l = some (n, r)) : ∃ c s, l = c :: s ∧ begB c = true := by
  unfold nameD nmB at h
  cases l with
  | nil => simp at h
  | cons c s =>
    refine ⟨c, s, rfl, ?_⟩
    by_cases hg : goB c = true
    · rw [List.takeWhile_cons_of_pos hg] at h
      simp only at h
      by_cases hb : begB c = true
      · exact hb
      · simp [hb] at h
    · simp [hg] at h
theorem partD_app {l b : List UInt8} {ts : List Xtk} (hl : l ≠ []) (h : partD l = some (ts, b)) {t : List UInt8} (ht : t = [] ∨ ∃ u, t = 60 :: u) : partD (l ++ t) = some (ts, b ++ t) := by
  obtain ⟨c, s, rfl⟩ := List.exists_cons_of_ne_nil hl
  by_cases hc : c = 60
  · subst hc
    unfold partD at h ⊢
    by_cases h1 : Lib.hasPrefix (60 :: s) [60, 33, 45, 45] = true
    · rw [if_pos h1] at h
      rw [if_pos (has_app h1), List.drop_append_of_le_length (show 4 ≤ (60 :: s).length from has_len h1)]
      rcases hu : uptoD ((60 :: s).drop 4) [45, 45, 62] with _ | ⟨x, y⟩
      · rw [hu] at h; cases h
      · rw [hu] at h
        rw [uptoD_app hu t]
        injection h with h
        injection h with e1 e2
        rw [← e1, ← e2]
    rw [if_neg h1] at h
    by_cases h2 : Lib.hasPrefix (60 :: s) [60, 63] = true
    · rw [if_pos h2] at h
      have h1' : ¬ Lib.hasPrefix (60 :: s ++ t) [60, 33, 45, 45] = true := by
        obtain ⟨u, hu⟩ := has_iff.1 h2
        rw [hu]
        simp [Lib.hasPrefix, List.isPrefixOf]
      rw [if_neg h1', if_pos (has_app h2), List.drop_append_of_le_length (show 2 ≤ (60 :: s).length from has_len h2)]
      rcases hu : uptoD ((60 :: s).drop 2) [63, 62] with _ | ⟨x, y⟩
      · rw [hu] at h; cases h
      · rw [hu] at h
        rw [uptoD_app hu t]
        injection h with h
        injection h with e1 e2
        rw [← e1, ← e2]
    rw [if_neg h2] at h
    by_cases h3 : Lib.hasPrefix (60 :: s) [60, 33, 68, 79, 67, 84, 89, 80, 69] = true
    · rw [if_pos h3] at h
      have h1' : ¬ Lib.hasPrefix (60 :: s ++ t) [60, 33, 45, 45] = true ∧ ¬ Lib.hasPrefix (60 :: s ++ t) [60, 63] = true := by
        obtain ⟨u, hu⟩ := has_iff.1 h3
        rw [hu]
        simp [Lib.hasPrefix, List.isPrefixOf]
      rw [if_neg h1'.1, if_neg h1'.2, if_pos (has_app h3), List.drop_append_of_le_length (show 9 ≤ (60 :: s).length from has_len h3)]
      rcases hu : uptoD ((60 :: s).drop 9) [62] with _ | ⟨x, y⟩
      · rw [hu] at h; cases h
      · rw [hu] at h
        rw [uptoD_app hu t]
        simp only at h ⊢
        by_cases h9 : (91 : UInt8) ∈ x
        · rw [if_pos h9] at h; cases h
        rw [if_neg h9] at h ⊢
        injection h with h
        injection h with e1 e2
        rw [← e1, ← e2]
    rw [if_neg h3] at h
    by_cases h4 : Lib.hasPrefix (60 :: s) [60, 33, 91, 67, 68, 65, 84, 65, 91] = true
    · rw [if_pos h4] at h
      have h1' : ¬ Lib.hasPrefix (60 :: s ++ t) [60, 33, 45, 45] = true ∧ ¬ Lib.hasPrefix (60 :: s ++ t) [60, 63] = true ∧ ¬ Lib.hasPrefix (60 :: s ++ t) [60, 33, 68, 79, 67, 84, 89, 80, 69] = true := by
        obtain ⟨u, hu⟩ := has_iff.1 h4
        rw [hu]
        simp [Lib.hasPrefix, List.isPrefixOf]
      rw [if_neg h1'.1, if_neg h1'.2.1, if_neg h1'.2.2, if_pos (has_app h4), List.drop_append_of_le_length (show 9 ≤ (60 :: s).length from has_len h4)]
      rcases hu : uptoD ((60 :: s).drop 9) [93, 93, 62] with _ | ⟨x, y⟩
      · rw [hu] at h; cases h
      · rw [hu] at h
        rw [uptoD_app hu t]
        injection h with h
        injection h with e1 e2
        rw [← e1, ← e2]
    rw [if_neg h4] at h
    by_cases h5 : Lib.hasPrefix (60 :: s) [60, 47] = true
    · rw [if_pos h5] at h
      have h1' : ¬ Lib.hasPrefix (60 :: s ++ t) [60, 33, 45, 45] = true ∧ ¬ Lib.hasPrefix (60 :: s ++ t) [60, 63] = true ∧ ¬ Lib.hasPrefix (60 :: s ++ t) [60, 33, 68, 79, 67, 84, 89, 80, 69] = true ∧ ¬ Lib.hasPrefix (60 :: s ++ t) [60, 33, 91, 67, 68, 65, 84, 65, 91] = true := by
        obtain ⟨u, hu⟩ := has_iff.1 h5
        rw [hu]
        simp [Lib.hasPrefix, List.isPrefixOf]
      rw [if_neg h1'.1, if_neg h1'.2.1, if_neg h1'.2.2.1, if_neg h1'.2.2.2, if_pos (has_app h5), List.drop_append_of_le_length (show 2 ≤ (60 :: s).length from has_len h5)]
      rcases hn : nameD ((60 :: s).drop 2) with _ | ⟨n, r⟩
      · rw [hn] at h; cases h
      rw [hn] at h
      simp only at h
      rcases hr : r.dropWhile blkB with _ | ⟨d, u⟩
      · rw [hr] at h; cases h
      rw [hr] at h
      simp only at h
      by_cases hd : d = 62
      · rw [if_pos hd] at h
        obtain ⟨d', s', rfl⟩ := drop_ne_nil hr
        rw [nameD_app hn t]
        simp only
        rw [← List.cons_append, (drop_app_stop hr t).2]
        simp only
        rw [if_pos hd]
        injection h with h
        injection h with e1 e2
        rw [← e1, ← e2]
      · rw [if_neg hd] at h; cases h
    rw [if_neg h5] at h
    have h6 : Lib.hasPrefix (60 :: s) [60] = true := by simp [Lib.hasPrefix, List.isPrefixOf]
    rw [if_pos h6] at h
    rcases hn : nameD ((60 :: s).drop 1) with _ | ⟨n, r⟩
    · rw [hn] at h; cases h
    rw [hn] at h
    simp only at h
    obtain ⟨d, s', hs, hbd⟩ := nameD_head hn
    simp only [List.drop_succ_cons, List.drop_zero] at hs
    subst hs
    have hd33 : d ≠ 33 ∧ d ≠ 63 ∧ d ≠ 47 := by
      refine ⟨?_, ?_, ?_⟩ <;> (rintro rfl; revert hbd; decide)
    have h1' : ¬ Lib.hasPrefix (60 :: (d :: s') ++ t) [60, 33, 45, 45] = true ∧ ¬ Lib.hasPrefix (60 :: (d :: s') ++ t) [60, 63] = true ∧ ¬ Lib.hasPrefix (60 :: (d :: s') ++ t) [60, 33, 68, 79, 67, 84, 89, 80, 69] = true ∧ ¬ Lib.hasPrefix (60 :: (d :: s') ++ t) [60, 33, 91, 67, 68, 65, 84, 65, 91] = true ∧ ¬ Lib.hasPrefix (60 :: (d :: s') ++ t) [60, 47] = true := by
      simp only [List.cons_append, has_cons]
      simp [hd33.1.symm, hd33.2.1.symm, hd33.2.2.symm]
    rw [if_neg h1'.1, if_neg h1'.2.1, if_neg h1'.2.2.1, if_neg h1'.2.2.2.1, if_neg h1'.2.2.2.2, if_pos (has_app h6)]
    rw [List.drop_append_of_le_length (show 1 ≤ (60 :: d :: s').length from has_len h6)]
    cases r with
    | nil =>
      exfalso
      revert h
      unfold openD
      simp [Lib.hasPrefix, List.isPrefixOf]
    | cons d' r' =>
      rw [nameD_app hn t]
      simp only
      exact openD_app 32 h t
  · have hno : ∀ (x : List UInt8) (p : List UInt8), ¬ Lib.hasPrefix (c :: x) (60 :: p) = true := by
      intro x p
      rw [has_cons]
      simp [Ne.symm hc]
    unfold partD at h ⊢
    rw [if_neg (hno _ _), if_neg (hno _ _), if_neg (hno _ _), if_neg (hno _ _), if_neg (hno _ _), if_neg (hno _ _)] at h
    rw [List.cons_append, if_neg (hno _ _), if_neg (hno _ _), if_neg (hno _ _), if_neg (hno _ _), if_neg (hno _ _), if_neg (hno _ _), ← List.cons_append]
    injection h with h
    injection h with e1 e2
    subst e1 e2
    rcases span_cases txtB (c :: s) with ⟨g1, g2, g3⟩ | ⟨a, c', t', g1, g2, g3, g4, g5⟩
    · rw [g3, g2]
      rcases ht with rfl | ⟨u, rfl⟩
      · rw [List.append_nil, g2, g3]; rfl
      · have := take_append_stop g1 60 u (by decide)
        rw [this.1, this.2]
        rfl
    · have := drop_app_stop g5 t
      rw [this.1, this.2, g5]
      rfl

/-! how much a part takes -/
theorem dropW_len (p : UInt8 → Bool) (l : List UInt8) : (l.dropWhile p).length ≤ l.length := (List.dropWhile_suffix p).length_le
theorem nameD_len {l n r : List UInt8} (h : nameD l = some (n, r)) : n.length + r.length = l.length ∧ 1 ≤ n.length ∧ n.length ≤ 64 ∧ n = l.takeWhile goB ∧ r = l.dropWhile goB ∧ nmB n = true := by
  unfold nameD at h
  by_cases hn : nmB (l.takeWhile goB) = true
  · rw [if_pos hn] at h
    injection h with h
    injection h with h1 h2
    have e := congrArg List.length (List.takeWhile_append_dropWhile (p := goB) (l := l))
    rw [List.length_append, h1, h2] at e
    have hn2 := hn
    rw [h1] at hn
    refine ⟨e, ?_, ?_, h1.symm, h2.symm, hn⟩
    · cases n with
      | nil => simp [nmB] at hn
      | cons c n => simp
    · unfold nmB at hn
      simp only [Bool.and_eq_true, decide_eq_true_eq] at hn
      exact hn.2
  · rw [if_neg hn] at h; cases h
theorem valD_len {l v b : List UInt8} (h : valD l = some (v, b)) : b.length < l.length := by
  cases l with
  | nil => cases h
  | cons q l =>
    simp only [valD] at h
    by_cases hq : q = 34 ∨ q = 39
    · rw [if_pos hq] at h
      by_cases hc : (Lib.cut l [q]).2.2 = true ∧ (60 : UInt8) ∉ (Lib.cut l [q]).1
      · rw [if_pos hc] at h
        injection h with h
        injection h with h1 h2
        have := cut_len hc.1
        rw [h2] at this
        simp only [List.length_cons]
        omega
      · rw [if_neg hc] at h
        cases h
    · rw [if_neg hq] at h
      cases h
theorem attrD_len {l b : List UInt8} {a : Xat} (h : attrD l = some (a, b)) : b.length < l.length := by
  unfold attrD at h
  rcases hn : nameD l with _ | ⟨n, r⟩
  · rw [hn] at h; cases h
  rw [hn] at h
  simp only at h
  have h1 := nameD_len hn
  have h2 := dropW_len blkB r
  rcases hr : r.dropWhile blkB with _ | ⟨c, t⟩
  · rw [hr] at h; cases h
  rw [hr] at h h2
  simp only [List.length_cons] at h h2
  by_cases hc : c = 61
  · rw [if_pos hc] at h
    rcases hv : valD (t.dropWhile blkB) with _ | ⟨v, b'⟩
    · rw [hv] at h; cases h
    · rw [hv] at h
      injection h with h
      injection h with e1 e2
      subst e2
      have h3 := valD_len hv
      have h4 := dropW_len blkB t
      omega
  · rw [if_neg hc] at h; cases h
theorem openD_len {n : List UInt8} : ∀ (k : Nat) {ats : List Xat} {l b : List UInt8} {ts : List Xtk} (h : openD n k ats l = some (ts, b)), ts.length + b.length ≤ l.length := by
  have key : ∀ {ats : List Xat} {l b : List UInt8} {ts : List Xtk} {p : List UInt8} {o : List Xtk}, Lib.hasPrefix (l.dropWhile blkB) p = true → some (o, (l.dropWhile blkB).drop p.length) = some (ts, b) → o.length = p.length → ts.length + b.length ≤ l.length := by
    intro ats l b ts p o h1 h h2
    injection h with h
    injection h with e1 e2
    subst e1 e2
    have h3 := has_len h1
    have h4 := dropW_len blkB l
    rw [List.length_drop]
    omega
  intro k
  induction k with
  | zero =>
    intro ats l b ts h
    unfold openD at h
    by_cases h1 : Lib.hasPrefix (l.dropWhile blkB) [62] = true
    · rw [if_pos h1] at h
      exact key (ats := ats) h1 h rfl
    rw [if_neg h1] at h
    by_cases h2 : Lib.hasPrefix (l.dropWhile blkB) [47, 62] = true
    · rw [if_pos h2] at h
      exact key (ats := ats) h2 h rfl
    rw [if_neg h2] at h
    exfalso
    split at h
    · cases h
    · split at h <;> cases h
  | succ k ih =>
    intro ats l b ts h
    unfold openD at h
    by_cases h1 : Lib.hasPrefix (l.dropWhile blkB) [62] = true
    · rw [if_pos h1] at h
      exact key (ats := ats) h1 h rfl
    rw [if_neg h1] at h
    by_cases h2 : Lib.hasPrefix (l.dropWhile blkB) [47, 62] = true
    · rw [if_pos h2] at h
      exact key (ats := ats) h2 h rfl
    rw [if_neg h2] at h
    split at h
    · cases h
    rcases ha : attrD (l.dropWhile blkB) with _ | ⟨a, b'⟩
    · rw [ha] at h; cases h
    rw [ha] at h
    simp only at h
    split at h
    · cases h
    have h3 := attrD_len ha
    have h4 := dropW_len blkB l
    have h5 := ih h
    omega
theorem uptoD_len {l sep a b : List UInt8} (h : uptoD l sep = some (a, b)) : a.length + sep.length + b.length = l.length := by
  unfold uptoD at h
  by_cases hc : (Lib.cut l sep).2.2 = true
  · rw [if_pos hc] at h
    injection h with h
    injection h with h1 h2
    have := cut_len hc
    rw [h1, h2] at this
    exact this
  · rw [if_neg hc] at h; cases h
theorem partD_len {c : UInt8} {s b : List UInt8} {ts : List Xtk} (h : partD (c :: s) = some (ts, b)) : ts.length + b.length ≤ (c :: s).length ∧ b.length < (c :: s).length := by
  unfold partD at h
  have up : ∀ {p sep : List UInt8} {a b' : List UInt8}, Lib.hasPrefix (c :: s) p = true → uptoD ((c :: s).drop p.length) sep = some (a, b') → p.length + b'.length + sep.length ≤ (c :: s).length := by
    intro p sep a b' h1 h2
    have h3 := has_len h1
    have h4 := uptoD_len h2
    rw [List.length_drop] at h4
    omega
  by_cases h1 : Lib.hasPrefix (c :: s) [60, 33, 45, 45] = true
  · rw [if_pos h1] at h
    rcases hu : uptoD ((c :: s).drop 4) [45, 45, 62] with _ | ⟨x, y⟩
    · rw [hu] at h; cases h
    · rw [hu] at h
      injection h with h
      injection h with e1 e2
      subst e1 e2
      have := up h1 hu
      simp only [List.length_cons, List.length_nil] at this ⊢
      omega
  rw [if_neg h1] at h
  by_cases h2 : Lib.hasPrefix (c :: s) [60, 63] = true
  · rw [if_pos h2] at h
    rcases hu : uptoD ((c :: s).drop 2) [63, 62] with _ | ⟨x, y⟩
    · rw [hu] at h; cases h
    · rw [hu] at h
      injection h with h
      injection h with e1 e2
      subst e1 e2
      have := up h2 hu
      simp only [List.length_cons, List.length_nil] at this ⊢
      omega
  rw [if_neg h2] at h
  by_cases h3 : Lib.hasPrefix (c :: s) [60, 33, 68, 79, 67, 84, 89, 80, 69] = true
  · rw [if_pos h3] at h
    rcases hu : uptoD ((c :: s).drop 9) [62] with _ | ⟨x, y⟩
    · rw [hu] at h; cases h
    · rw [hu] at h
      simp only at h
      split at h
      · cases h
      injection h with h
      injection h with e1 e2
      subst e1 e2
      have := up h3 hu
      simp only [List.length_cons, List.length_nil] at this ⊢
      omega
  rw [if_neg h3] at h
  by_cases h4 : Lib.hasPrefix (c :: s) [60, 33, 91, 67, 68, 65, 84, 65, 91] = true
  · rw [if_pos h4] at h
    rcases hu : uptoD ((c :: s).drop 9) [93, 93, 62] with _ | ⟨x, y⟩
    · rw [hu] at h; cases h
    · rw [hu] at h
      injection h with h
      injection h with e1 e2
      subst e1 e2
      have := up h4 hu
      simp only [List.length_cons, List.length_nil] at this ⊢
      omega
  rw [if_neg h4] at h
  by_cases h5 : Lib.hasPrefix (c :: s) [60, 47] = true
  · rw [if_pos h5] at h
    have h6 := has_len h5
    rcases hn : nameD ((c :: s).drop 2) with _ | ⟨n, r⟩
    · rw [hn] at h; cases h
    rw [hn] at h
    simp only at h
    have h7 := nameD_len hn
    have h8 := dropW_len blkB r
    rcases hr : r.dropWhile blkB with _ | ⟨d, u⟩
    · rw [hr] at h; cases h
    rw [hr] at h h8
    simp only at h
    split at h
    · injection h with h
      injection h with e1 e2
      subst e1 e2
      have h9 := h7.1
      rw [List.length_drop] at h9
      simp only [List.length_cons, List.length_nil] at *
      omega
    · cases h
  rw [if_neg h5] at h
  by_cases h6 : Lib.hasPrefix (c :: s) [60] = true
  · rw [if_pos h6] at h
    rcases hn : nameD ((c :: s).drop 1) with _ | ⟨n, r⟩
    · rw [hn] at h; cases h
    rw [hn] at h
    simp only at h
    have h7 := (nameD_len hn).1
    have h7' := (nameD_len hn).2.1
    have h8 := openD_len 32 h
    rw [List.length_drop] at h7
    simp only [List.length_cons] at h7 ⊢
    omega
  rw [if_neg h6] at h
  injection h with h
  injection h with e1 e2
  subst e1 e2
  have hc : c ≠ 60 := by
    rintro rfl
    exact h6 (by simp [Lib.hasPrefix, List.isPrefixOf])
  have ht : txtB c = true := by
    simp only [txtB, bne_iff_ne, ne_eq]
    intro h
    exact hc (UInt8.toNat_inj.1 h)
  rw [List.dropWhile_cons_of_pos ht]
  have h8 := dropW_len txtB s
  simp only [List.length_cons, List.length_nil]
  omega

/-! rows of tokens -/
theorem addT_len (out : List Xtk) (t : Xtk) : out.length ≤ (addT out t).length ∧ (addT out t).length ≤ out.length + 1 := by
  unfold addT
  split
  · split
    · omega
    · rcases hl : out.getLast? with _ | u
      · simp
      · simp only
        split
        · rw [List.length_append, List.length_dropLast]
          simp only [List.length_cons, List.length_nil]
          have : out.length ≠ 0 := by
            intro e
            rw [List.eq_nil_of_length_eq_zero e] at hl
            cases hl
          omega
        · simp
  · simp
theorem adds_len : ∀ (ts out : List Xtk), out.length ≤ (ts.foldl addT out).length ∧ (ts.foldl addT out).length ≤ out.length + ts.length
  | [], out => by simp
  | t :: ts, out => by
    have h1 := addT_len out t
    have h2 := adds_len ts (addT out t)
    simp only [List.foldl_cons, List.length_cons]
    omega
theorem add_append (x y : List Xtk) (u : Xtk) (t : Xtk) : addT (x ++ y ++ [u]) t = x ++ addT (y ++ [u]) t := by
  unfold addT
  rw [List.getLast?_concat, List.getLast?_concat]
  simp only
  split
  · split
    · rw [List.append_assoc]
    · split
      · rw [List.dropLast_concat, List.dropLast_concat, List.append_assoc]
      · simp
  · simp
theorem add_two (z : List Xtk) (u t : Xtk) (hu : u.kd = 3) (ht : t.kd = 3) (htx : t.tx ≠ []) (hux : u.tx ≠ []) : addT z ⟨u.kd, u.nm, u.ats, u.tx ++ t.tx⟩ = addT (addT z u) t := by
  have e1 : u.tx ++ t.tx ≠ [] := by simp [hux]
  rcases List.eq_nil_or_concat z with rfl | ⟨z', v, rfl⟩
  · simp [addT, hu, ht, hux, htx]
  · rw [List.concat_eq_append]
    by_cases hv : v.kd = 3
    · simp [addT, hu, ht, hux, htx, hv]
    · simp [addT, hu, ht, hux, htx, hv]
/-- every text has some bytes, and stands behind no other -/
def NrmX : List Xtk → Prop
  | [] => True
  | t :: l => (t.kd = 3 → t.tx ≠ []) ∧ (∀ u ∈ l.head?, ¬ (t.kd = 3 ∧ u.kd = 3)) ∧ NrmX l
theorem nrm_snoc : ∀ (l : List Xtk) (t : Xtk), NrmX (l ++ [t]) ↔ NrmX l ∧ (t.kd = 3 → t.tx ≠ []) ∧ (∀ u ∈ l.getLast?, ¬ (u.kd = 3 ∧ t.kd = 3))
  | [], t => by simp [NrmX]
  | [a], t => by
    simp [NrmX]
    intro _
    exact And.comm
  | a :: b :: l, t => by
    have ih := nrm_snoc (b :: l) t
    have e : (a :: b :: l).getLast? = (b :: l).getLast? := by simp
    rw [e]
    simp only [List.cons_append, NrmX, List.head?_cons] at ih ⊢
    rw [ih]
    constructor
    · rintro ⟨h1, h2, h3, h4⟩; exact ⟨⟨h1, h2, h3⟩, h4⟩
    · rintro ⟨⟨h1, h2, h3⟩, h4⟩; exact ⟨h1, h2, h3, h4⟩
theorem add_nrm {l : List Xtk} {t : Xtk} (hl : NrmX l) : NrmX (addT l t) := by
  rcases List.eq_nil_or_concat l with rfl | ⟨l', u, rfl⟩
  · by_cases ht : t.kd = 3
    · by_cases hx : t.tx = []
      · simp [addT, ht, hx, NrmX]
      · simp [addT, ht, hx, NrmX]
    · simp [addT, ht, NrmX]
  · rw [List.concat_eq_append] at hl ⊢
    by_cases ht : t.kd = 3
    · by_cases hx : t.tx = []
      · simp only [addT, ht, hx, if_true]
        exact hl
      · by_cases hu : u.kd = 3
        · have : addT (l' ++ [u]) t = l' ++ [⟨u.kd, u.nm, u.ats, u.tx ++ t.tx⟩] := by simp [addT, ht, hx, hu]
          rw [this, nrm_snoc]
          rw [nrm_snoc] at hl
          refine ⟨hl.1, fun _ => by simp [hx], hl.2.2⟩
        · have : addT (l' ++ [u]) t = (l' ++ [u]) ++ [t] := by simp [addT, ht, hx, hu]
          rw [this, nrm_snoc]
          refine ⟨hl, fun _ => hx, ?_⟩
          simp [hu]
    · have : addT (l' ++ [u]) t = (l' ++ [u]) ++ [t] := by simp [addT, ht]
      rw [this, nrm_snoc]
      refine ⟨hl, fun hh => absurd hh ht, ?_⟩
      simp [ht]
theorem adds_nrm : ∀ (ts l : List Xtk), NrmX l → NrmX (ts.foldl addT l)
  | [], l, h => h
  | t :: ts, l, h => adds_nrm ts _ (add_nrm h)
/-- a row that is in order, token for token, is added as one -/
theorem adds_adds (x Y : List Xtk) (t : Xtk) (hY : NrmX Y) : (addT Y t).foldl addT x = addT (Y.foldl addT x) t := by
  rcases List.eq_nil_or_concat Y with rfl | ⟨Y', u, rfl⟩
  · by_cases ht : t.kd = 3
    · by_cases hx : t.tx = []
      · simp [addT, ht, hx]
      · simp [addT, ht, hx]
    · simp [addT, ht]
  · rw [List.concat_eq_append] at hY ⊢
    by_cases ht : t.kd = 3
    · by_cases hx : t.tx = []
      · have e : ∀ z, addT z t = z := fun z => by simp [addT, ht, hx]
        rw [e, e]
      · by_cases hu : u.kd = 3
        · have : addT (Y' ++ [u]) t = Y' ++ [⟨u.kd, u.nm, u.ats, u.tx ++ t.tx⟩] := by simp [addT, ht, hx, hu]
          rw [this, List.foldl_append, List.foldl_append]
          simp only [List.foldl_cons, List.foldl_nil]
          rw [add_two _ u t hu ht hx (((nrm_snoc _ _).1 hY).2.1 hu)]
        · have : addT (Y' ++ [u]) t = (Y' ++ [u]) ++ [t] := by simp [addT, ht, hx, hu]
          rw [this, List.foldl_append]
          simp only [List.foldl_cons, List.foldl_nil]
    · have : addT (Y' ++ [u]) t = (Y' ++ [u]) ++ [t] := by simp [addT, ht]
      rw [this, List.foldl_append]
      simp only [List.foldl_cons, List.foldl_nil]
theorem adds_more (x : List Xtk) : ∀ (ts Y : List Xtk), NrmX Y → (ts.foldl addT Y).foldl addT x = ts.foldl addT (Y.foldl addT x)
  | [], Y, h => rfl
  | t :: ts, Y, h => by
    rw [List.foldl_cons, adds_more x ts _ (add_nrm h), adds_adds x Y t h]
    rfl

/-! a whole text -/
/-- a text of parts, and the tokens with those of it -/
inductive Pz : List Xtk → List UInt8 → List Xtk → Prop
  | nil (out : List Xtk) : Pz out [] out
  | step {out out' : List Xtk} {c : UInt8} {l b : List UInt8} {ts : List Xtk} (h : partD (c :: l) = some (ts, b)) (h2 : Pz (ts.foldl addT out) b out') : Pz out (c :: l) out'
theorem Pz.app {out a x : List Xtk} {l t : List UInt8} (h : Pz out l x) (ht : t = [] ∨ ∃ u, t = 60 :: u) (h2 : Pz x t a) : Pz out (l ++ t) a := by
  induction h with
  | nil out => exact h2
  | step h _ ih => exact .step (partD_app (by simp) h ht) (ih h2)
theorem Pz.base {Y y x : List Xtk} {l : List UInt8} (h : Pz Y l y) (hY : NrmX Y) : Pz (Y.foldl addT x) l (y.foldl addT x) ∧ NrmX y := by
  induction h with
  | nil out => exact ⟨.nil _, hY⟩
  | @step out out' c l b ts h _ ih =>
    have := ih (adds_nrm ts _ hY)
    rw [adds_more x ts out hY] at this
    exact ⟨.step h this.1, this.2⟩
theorem Pz.len {Y y : List Xtk} {l : List UInt8} (h : Pz Y l y) : Y.length ≤ y.length ∧ y.length ≤ Y.length + l.length := by
  induction h with
  | nil out => simp
  | @step out out' c l b ts h _ ih =>
    have h1 := adds_len ts out
    have h2 := partD_len h
    omega
theorem tokF_ok : ∀ (N f : Nat) (out : List Xtk) (l : List UInt8), l.length ≤ f → (tokF N f out l).2.2 = 0 → Pz out l (tokF N f out l).1 ∧ (tokF N f out l).2.1 = N
  | N, f, out, [], _, _ => by
    cases f <;> exact ⟨.nil _, rfl⟩
  | N, 0, out, c :: l, hf, _ => by simp at hf
  | N, f + 1, out, c :: l, hf, h => by
    unfold tokF at h ⊢
    rcases hp : partD (c :: l) with _ | ⟨ts, b⟩
    · rw [hp] at h
      simp at h
    · rw [hp] at h
      simp only at h ⊢
      split at h
      · simp at h
      · rename_i hlen
        rw [if_neg hlen]
        have h1 := partD_len hp
        have := tokF_ok N f _ b (by omega) h
        exact ⟨.step hp this.1, this.2⟩
theorem tokF_pz {N : Nat} {out x : List Xtk} {l : List UInt8} (h : Pz out l x) (hx : x.length ≤ 8192) : ∀ (f : Nat), l.length ≤ f → tokF N f out l = (x, (N : Int), 0) := by
  induction h with
  | nil out => intro f _; cases f <;> rfl
  | @step out out' c l b ts h hr ih =>
    intro f hf
    cases f with
    | zero => simp at hf
    | succ f =>
      unfold tokF
      rw [h]
      simp only
      have h1 := partD_len h
      have h2 := hr.len
      rw [if_neg (by omega)]
      exact ih hx f (by omega)
theorem tokD_ok {s : List UInt8} (h : (tokD s).2.2 = 0) : Pz [] s (tokD s).1 ∧ (tokD s).2.1 = s.length ∧ NrmX (tokD s).1 := by
  unfold tokD at *
  split at h
  · simp at h
  · rename_i hl
    rw [if_neg hl]
    have := tokF_ok s.length s.length [] s (Nat.le_refl _) h
    exact ⟨this.1, this.2, (this.1.base (x := []) (by simp [NrmX])).2⟩
theorem tokD_pz {s : List UInt8} {x : List Xtk} (h : Pz [] s x) (hs : s.length ≤ 65536) (hx : x.length ≤ 8192) : tokD s = (x, (s.length : Int), 0) := by
  unfold tokD
  rw [if_neg (by omega)]
  exact tokF_pz h hx _ (Nat.le_refl _)
/-- a remark or a note between two documents is nothing -/
theorem nothing_law {a b w : List UInt8} (k : List UInt8) (hk : k = [60, 33, 45, 45] ++ w ++ [45, 45, 62] ∨ k = [60, 63] ++ w ++ [63, 62]) (hw : (45 : UInt8) ∉ w ∧ (63 : UInt8) ∉ w) (ha : (tokD a).2.2 = 0) (hb : (tokD b).2.2 = 0) (hl : a.length ≤ 1000 ∧ b.length ≤ 1000 ∧ w.length ≤ 300) :
    tokD (a ++ k ++ b) = ((tokD b).1.foldl addT (tokD a).1, ((a ++ k ++ b).length : Int), 0) := by
  obtain ⟨pa, _, na⟩ := tokD_ok ha
  obtain ⟨pb, _, nb⟩ := tokD_ok hb
  have hk0 : ∃ u, k ++ b = 60 :: u := by
    rcases hk with rfl | rfl
    · exact ⟨_, rfl⟩
    · exact ⟨_, rfl⟩
  have hpart : partD (k ++ b) = some ([], b) := by
    rcases hk with rfl | rfl
    · have e1 : [60, 33, 45, 45] ++ w ++ [45, 45, 62] ++ b = [60, 33, 45, 45] ++ (w ++ ([45, 45, 62] ++ b)) := by simp
      unfold partD
      rw [if_pos (has_iff.2 ⟨_, e1⟩), e1]
      have e2 : List.drop 4 ([60, 33, 45, 45] ++ (w ++ ([45, 45, 62] ++ b))) = w ++ (45 :: [45, 62]) ++ b := by simp
      rw [e2]
      unfold uptoD
      rw [cut_head hw.1]
      rfl
    · have e1 : [60, 63] ++ w ++ [63, 62] ++ b = [60, 63] ++ (w ++ ([63, 62] ++ b)) := by simp
      unfold partD
      rw [if_neg (by rw [e1]; simp [Lib.hasPrefix, List.isPrefixOf]), if_pos (has_iff.2 ⟨_, e1⟩), e1]
      have e2 : List.drop 2 ([60, 63] ++ (w ++ ([63, 62] ++ b))) = w ++ (63 :: [62]) ++ b := by simp
      rw [e2]
      unfold uptoD
      rw [cut_head hw.2]
      rfl
  have hkl : k.length ≤ 310 := by
    rcases hk with rfl | rfl <;> simp <;> omega
  have h1 : Pz (tokD a).1 (k ++ b) ((tokD b).1.foldl addT (tokD a).1) := by
    obtain ⟨u, hu⟩ := hk0
    rw [hu] at hpart ⊢
    refine .step hpart ?_
    exact (pb.base (x := (tokD a).1) (by simp [NrmX])).1
  have h2 := pa.app (.inr hk0) h1
  rw [List.append_assoc]
  have h3 := pa.len
  have h4 := pb.len
  have h5 := adds_len (tokD b).1 (tokD a).1
  simp only [List.length_nil] at h3 h4
  exact tokD_pz h2 (by simp only [List.length_append]; omega) (by omega)
end Go.Nst
