/-
  open: a tag that opens .
  part: the next part of a document.
  add: a token more.
  Tokens.
  Whether two rows of attributes, of tokens, are the same: the code's, the document's.
-/
import Derived.Test.YtjmmgekildlckaaXmC
section
namespace Go.Proofs.Ytjmmgekildlckaa
open Go.RowKit Go.Nst
set_option maxRecDepth 100000
set_option linter.unusedVariables false
set_option linter.unusedSimpArgs false

def openN (l : List UInt8) : Option (List Xtk × List UInt8) := match nameD l with | none => none | some (n, r) => openD n 32 [] r
def strL : Option Value → Nat
  | some (.string s) => s.size
  | _ => 0
def goodL : Option Value → Nat
  | some (.bool true) => 0
  | _ => 1
section
variable {n : List UInt8} {K : Nat} {ats : List Xat} {l : List UInt8}
theorem openD_62 (h : Lib.hasPrefix (l.dropWhile blkB) [62] = true) : openD n K ats l = some ([⟨1, n, ats, []⟩], (l.dropWhile blkB).drop 1) := by
  unfold openD; rw [if_pos h]
theorem openD_47 (h : Lib.hasPrefix (l.dropWhile blkB) [62] = false) (h2 : Lib.hasPrefix (l.dropWhile blkB) [47, 62] = true) : openD n K ats l = some ([⟨1, n, ats, []⟩, ⟨2, n, [], []⟩], (l.dropWhile blkB).drop 2) := by
  unfold openD; rw [if_neg (by rw [h]; simp), if_pos h2]
theorem openD_apart (h : Lib.hasPrefix (l.dropWhile blkB) [62] = false) (h2 : Lib.hasPrefix (l.dropWhile blkB) [47, 62] = false) (h3 : (!(l.takeWhile blkB).isEmpty) = false) : openD n K ats l = none := by
  have h3 : l.takeWhile blkB = [] := by simpa using h3
  unfold openD; rw [if_neg (by rw [h]; simp), if_neg (by rw [h2]; simp), if_pos h3]
theorem openD_attr (h : Lib.hasPrefix (l.dropWhile blkB) [62] = false) (h2 : Lib.hasPrefix (l.dropWhile blkB) [47, 62] = false) (h3 : attrD (l.dropWhile blkB) = none) : openD n K ats l = none := by
  unfold openD; rw [if_neg (by rw [h]; simp), if_neg (by rw [h2]; simp), h3]
  split <;> rfl
theorem openD_full {a : Xat} {b : List UInt8} (h : Lib.hasPrefix (l.dropWhile blkB) [62] = false) (h2 : Lib.hasPrefix (l.dropWhile blkB) [47, 62] = false) (h3 : attrD (l.dropWhile blkB) = some (a, b)) (h4 : K = 0 ∨ hasNm ats a.nm = true) : openD n K ats l = none := by
  unfold openD; rw [if_neg (by rw [h]; simp), if_neg (by rw [h2]; simp), h3]
  split
  · rfl
  · simp only
    cases K with
    | zero => rfl
    | succ K =>
      simp only
      rcases h4 with h4 | h4
      · cases h4
      · unfold hasNm at h4
        rw [if_pos h4]
theorem openD_next {a : Xat} {b : List UInt8} (h : Lib.hasPrefix (l.dropWhile blkB) [62] = false) (h2 : Lib.hasPrefix (l.dropWhile blkB) [47, 62] = false) (h0 : (!(l.takeWhile blkB).isEmpty) = true) (h3 : attrD (l.dropWhile blkB) = some (a, b)) (h4 : hasNm ats a.nm = false) : openD n (K + 1) ats l = openD n K (ats ++ [a]) b := by
  have h0 : ¬ l.takeWhile blkB = [] := by simpa using h0
  rw [openD]
  rw [if_neg (by rw [h]; simp), if_neg (by rw [h2]; simp), if_neg h0, h3]
  simp only
  unfold hasNm at h4
  rw [if_neg (by rw [h4]; simp)]
end
/-- the token that opens, as it stands in its block -/
theorem xt_open {w W : World} {k : Nat} {n : List UInt8} {A : Option Addr} {m c : Nat} {ats : List Xat} (h : XaO W (k + 1) (fun _ => False) A m c ats) (hk : w.heap.size ≤ k) (hn : n.length ≤ 100000) : XtP W (fun b => w.heap.size ≤ b) #[.int .i64 1, .string ⟨n.toArray⟩, .slice A m c, .string ⟨#[]⟩] ⟨1, n, ats, []⟩ := by
  have hl := h.len
  subst hl
  exact ⟨A, c, rfl, ⟨(show (-9223372036854775808 : Int) ≤ 1 by omega), (show (1 : Int) ≤ 9223372036854775807 by omega)⟩, (show n.length ≤ 9223372036854775807 by omega), by simp, h.cap.1, h.cap.2, h.qs xaP (fun b hb _ => hb.elim) (fun b hb _ => by omega)⟩
theorem xt_lit2 {W : World} {B : Nat} {vs us : Array Value} {t u : Xtk} (hB : B ≤ W.heap.size) (h : XtP W (fun b => B ≤ b) vs t) (h2 : XtP W (fun b => B ≤ b) us u) : XtA (W.alloc (.cells (vs ++ us) 68)) (fun b => B ≤ b) (some ⟨W.heap.size, 0, none⟩) 2 [t, u] :=
  (RwR.blk2 (xtP.size h) (Blk.new W 68 (vs ++ us)) (xtP.bel h (bel_alloc (Below.refl _ _) _)) (xtP.bel h2 (bel_alloc (Below.refl _ _) _))).at_ (fun b off e => by injection e with e; injection e with e; exact e ▸ hB)
theorem grown_bel {a b c : World} {r : Option Nat} {B : Nat} (h : a.grownBy b r) (hb : Below B b c) (hB : a.heap.size ≤ B) : a.grownBy c r := ⟨hb.os.trans h.os, hb.tape.trans h.tape, hb.output.trans h.output, Nat.le_trans h.size hb.size, fun i hi hne => (hb.block i (by omega)).trans (h.block i hi hne)⟩
/-- the world ahead of the append -/
def opW (W : World) (g : Nat) (bb : Bool) (a : Xat) : World := (W.setCell ⟨g, 1, none⟩ (.bool bb)).alloc (.cells (xaV a) 51)
theorem readL_len : ∀ (n : Nat) (l : List UInt8), l.length ≤ n → (readL l).length ≤ 4 * l.length
  | _, [], _ => by simp [readL_nil]
  | 0, c :: t, h => by simp at h
  | n + 1, c :: t, h => by
    simp only [List.length_cons] at h ⊢
    by_cases h38 : c = 38
    · subst h38
      cases hs : signAt t with
      | none =>
        rw [readL_amp hs]
        have := readL_len n t (by omega)
        simp only [List.length_cons]
        omega
      | some rn =>
        obtain ⟨r, d⟩ := rn
        rw [readL_sign hs]
        have := readL_len n (t.drop d) (by rw [List.length_drop]; omega)
        have he := enc_len r
        rw [List.length_drop] at this
        rw [List.length_append]
        omega
    · rw [readL_plain c t h38]
      have := readL_len n t (by omega)
      simp only [List.length_cons]
      omega
theorem cValue_len (s : XS) : (cValue s).1.length ≤ 4 * s.1.length ∧ (cValue s).2.1.length ≤ s.1.length := by
  have key : ∀ r : List UInt8 × XS, (finV r).1.length ≤ 4 * r.1.length ∧ (finV r).2.1 = r.2.1 := fun r => ⟨readL_len _ _ (Nat.le_refl _), rfl⟩
  unfold cValue
  split
  · have h1 := key (cUpto [34] (cTake [34] s))
    have h2 := cUpto_len [34] (cTake [34] s)
    have h3 := cTake_len [34] s
    rw [h1.2]
    have := h1.1
    omega
  · have h1 := key (cUpto [39] (cMust [39] (cTake [34] s)))
    have h2 := cUpto_len [39] (cMust [39] (cTake [34] s))
    have h3 := cTake_len [34] s
    have h4 := cMust_len [39] (cTake [34] s)
    rw [h1.2]
    have := h1.1
    omega
theorem cAttr_len (s : XS) : (cAttr s).1.nm.length ≤ s.1.length ∧ (cAttr s).1.vl.length ≤ 4 * s.1.length ∧ (cAttr s).2.1.length ≤ s.1.length := by
  have h1 := cName_len s
  have h2 := cBlank_len (cName s).2
  have h3 := cMust_len [61] (cBlank (cName s).2)
  have h4 : (cAttr3 s).1.length ≤ (cMust [61] (cBlank (cName s).2)).1.length := cBlank_len _
  unfold cAttr
  split
  · exact ⟨h1.2, by simp, by simp only; omega⟩
  · have h5 := cValue_len (cAttr3 s)
    refine ⟨h1.2, ?_, ?_⟩
    · show (cValue (cAttr3 s)).1.length ≤ _
      omega
    · show (cValue (cAttr3 s)).2.1.length ≤ _
      omega
end Go.Proofs.Ytjmmgekildlckaa
end
section
namespace Go.Proofs.Ytjmmgekildlckaa
open Go.RowKit Go.Nst
set_option maxRecDepth 100000
set_option linter.unusedVariables false
set_option linter.unusedSimpArgs false

theorem uptoD_cases (l sep : List UInt8) : (∃ a b, uptoD l sep = some (a, b) ∧ cUpto sep (l, false) = (a, (b, false)) ∧ a.length ≤ l.length) ∨ (uptoD l sep = none ∧ cUpto sep (l, false) = ([], (l, true))) := by
  unfold uptoD cUpto
  by_cases h : (Lib.cut l sep).2.2 = true
  · left
    have := cut_len h
    exact ⟨_, _, by rw [if_pos h], by simp only; rw [if_pos h], by omega⟩
  · right
    exact ⟨by rw [if_neg h], by simp only; rw [if_neg h]⟩
/-- what a tag that closes is -/
def closeD (l : List UInt8) : Option (List Xtk × List UInt8) := match nameD l with | none => none | some (n, r) => match r.dropWhile blkB with | [] => none | c :: t => if c = 62 then some ([⟨2, n, [], []⟩], t) else none
theorem closeD_cases (l : List UInt8) : (∃ ts b, closeD l = some (ts, b) ∧ ts = [⟨2, (cName (l, false)).1, [], []⟩] ∧ cClose (l, false) = (b, false)) ∨ (closeD l = none ∧ ∃ l', cClose (l, false) = (l', true)) := by
  have bad : ∀ s : XS, s.2 = true → ∃ l', s = (l', true) := fun s h => ⟨s.1, by rw [← h]⟩
  unfold closeD cClose
  rcases hn : nameD l with _ | ⟨n, r⟩
  · right
    exact ⟨rfl, bad _ (cMust_bad _ _ (cName_none hn))⟩
  · rw [cName_some hn]
    simp only
    unfold cBlank
    simp only
    rcases hr : r.dropWhile blkB with _ | ⟨c, t⟩
    · right
      exact ⟨rfl, _, rfl⟩
    · by_cases h62 : c = 62
      · subst h62
        left
        exact ⟨_, t, rfl, rfl, by simp [cMust, has_c1]⟩
      · right
        have : Lib.hasPrefix (c :: t) [62] = false := by rw [has_c1]; simpa using Ne.symm h62
        exact ⟨by simp only; rw [if_neg h62], _, by simp [cMust, this]; rfl⟩
end Go.Proofs.Ytjmmgekildlckaa
end
section
namespace Go.Proofs.Ytjmmgekildlckaa
open Go.RowKit Go.Nst
set_option maxRecDepth 100000
set_option linter.unusedVariables false
set_option linter.unusedSimpArgs false

section
variable {α : Type} {sz : Nat} {P : World → (Nat → Prop) → Array Value → α → Prop} {w w' : World} {S S' : Nat → Prop} {A : Option Addr} {k n c base : Nat} {l : List α} {e : TypeId}
/-- append, and where the row lies behind it -/
theorem wp_appY {T : TypeId} {z : Value} {bytes : Nat} (hP : ElP sz P) (hI : Info Try.prog T e z sz bytes) {o : Oper} {a : Act} {K : Act → World → Prop} {Q : Exit → Act → World → Prop} {s x : Operand}
    (ho : o.op = .call { callee := .builtin .append, args := #[s, x], argTypes := #[T, T] })
    {A0 : Option Addr} {c0 : Nat} {L : List α} (hs : a.eval s = .slice A0 n c0) (hown : RwO e sz P w base S A0 n c0 L)
    {m c : Nat} {l2 : List α} (hx : a.eval x = .slice A m c) (hr : RwR sz P w (fun b => S b ∧ some b ≠ (Value.slice A0 n c0).ownBlock) A m l2)
    (hn : n + m ≤ 4000000) (hby : bytes ≤ 1000000) (hbase : base ≤ w.heap.size)
    (h : ∀ A' c' w', RwO e sz P w' base S A' (n + m) c' (L ++ l2) → Below base w w' → w.grownBy w' (Value.slice A0 n c0).ownBlock → ((Value.slice A' (n + m) c').ownBlock = (Value.slice A0 n c0).ownBlock ∨ (Value.slice A' (n + m) c').ownBlock = some w.heap.size) → K (a.put o.dst (.slice A' (n + m) c')) w') : o.wp Try.prog a w K Q := by
  obtain ⟨xs, h1, h2, V, h3, h4⟩ := hown
  obtain ⟨V2, hR, hV4, hone, hq2⟩ := hr.reads hP
  have hl2 := hr.1
  have hbb : (n + m) * bytes ≤ 140737488355328 := Nat.le_trans (Nat.mul_le_mul hn hby) (by decide)
  refine wp_app w hI ho hs h1 hx hR hone (by unfold maxLen; omega) hbb hbase fun A' c' w' k1 k2 k3 => h A' c' w' ?_ ((Below.refl _ _).grown k2 hbase (fun k hk => (World.ownsRow.lt h1 k hk).1)) k2 k3
  have hkeep : ∀ b, (S b ∧ some b ≠ (Value.slice A0 n c0).ownBlock) → b < w.heap.size → w'.heap[b]? = w.heap[b]? := fun b hb hlt => k2.block b hlt hb.2
  have hkeep2 : ∀ b, (S b ∧ some b ≠ (Value.slice A0 n c0).ownBlock) → b < w.heap.size → (S b ∧ some b ≠ (Value.slice A' (n + m) c').ownBlock) := fun b hb hlt => by
    refine ⟨hb.1, ?_⟩
    rcases k3 with e | e
    · rw [e]; exact hb.2
    · rw [e]; intro he; injection he with he; omega
  have hlen := h1.1
  refine ⟨_, k1, by rw [List.length_append]; omega, fun i => if i < n then V i else V2 (i - n), fun i j u hi hu => ?_, fun i q hi => ?_⟩
  · by_cases hin : i < n
    · simp only [if_pos hin] at hu
      have := h3 i j u hin hu
      rw [List.getElem?_append_left (List.getElem?_eq_some_iff.1 this).1]
      exact this
    · simp only [if_neg hin] at hu
      have hj : j < sz := by
        rcases Nat.lt_or_ge j sz with h | h
        · exact h
        · rw [Array.getElem?_eq_none (by rw [hV4 _ (by omega)]; exact h)] at hu; cases hu
      obtain ⟨d, rfl⟩ : ∃ d, i = n + d := ⟨i - n, by omega⟩
      rw [Nat.add_sub_cancel_left] at hu
      have hm : (n + d) * sz = n * sz + d * sz := Nat.add_mul _ _ _
      rw [List.getElem?_append_right (by omega), hlen, show (n + d) * sz + j - n * sz = d * sz + j by omega, rowZ_get V2 m hV4 _ _ (by omega) hj]
      exact hu
  · by_cases hin : i < n
    · rw [List.getElem?_append_left (by omega)] at hi
      simp only [if_pos hin]
      exact hP.keep hkeep k2.size hkeep2 (h4 i q hi)
    · rw [List.getElem?_append_right (by omega), h2] at hi
      simp only [if_neg hin]
      exact hP.keep hkeep k2.size hkeep2 (hq2 _ q hi)
theorem wpList_appY {T : TypeId} {z : Value} {bytes : Nat} (hP : ElP sz P) (hI : Info Try.prog T e z sz bytes) {ops : Array Oper} {rest : List Oper} {o : Oper} {a : Act} {Q : Exit → Act → World → Prop} {s x : Operand} (hgd : o.guard = none)
    (ho : o.op = .call { callee := .builtin .append, args := #[s, x], argTypes := #[T, T] })
    {A0 : Option Addr} {c0 : Nat} {L : List α} (hs : a.eval s = .slice A0 n c0) (hown : RwO e sz P w base S A0 n c0 L)
    {m c : Nat} {l2 : List α} (hx : a.eval x = .slice A m c) (hr : RwR sz P w (fun b => S b ∧ some b ≠ (Value.slice A0 n c0).ownBlock) A m l2)
    (hn : n + m ≤ 4000000) (hby : bytes ≤ 1000000) (hbase : base ≤ w.heap.size)
    (h : ∀ A' c' w', RwO e sz P w' base S A' (n + m) c' (L ++ l2) → Below base w w' → w.grownBy w' (Value.slice A0 n c0).ownBlock → ((Value.slice A' (n + m) c').ownBlock = (Value.slice A0 n c0).ownBlock ∨ (Value.slice A' (n + m) c').ownBlock = some w.heap.size) → wpList Try.prog ops Q rest (a.put o.dst (.slice A' (n + m) c')) w') : wpList Try.prog ops Q (o :: rest) a w :=
  wpList_plain hgd fun _ hK => wp_appY hP hI ho hs hown hx hr hn hby hbase fun A' c' w' h1 h2 h3 h4 => hK _ _ (h A' c' w' h1 h2 h3 h4)
end
/-- the row behind a token more -/
def RetAdd (w : World) (base : Nat) (S : Nat → Prop) (own : Option Nat) (L : List Xtk) (e : Ending) (w' : World) : Prop :=
  ∃ A n c, e = .returned (.slice A n c) ∧ XtO w' base S A n c L ∧ Below base w w' ∧ w.grownBy w' own ∧ (∀ b, some b = (Value.slice A n c).ownBlock → some b = own ∨ w.heap.size ≤ b)
theorem addT_app {L : List Xtk} {t : Xtk} (h : t.kd ≠ 3 ∨ (t.tx ≠ [] ∧ ∀ u ∈ L.getLast?, u.kd ≠ 3)) : addT L t = L ++ [t] := by
  unfold addT
  by_cases h3 : t.kd = 3
  · rw [if_pos h3]
    rcases h with h | ⟨h1, h2⟩
    · exact absurd h3 h
    · rw [if_neg h1]
      cases hl : L.getLast? with
      | none => rfl
      | some u => simp only; rw [if_neg (h2 u (by rw [hl]; simp))]
  · rw [if_neg h3]
theorem addT_set {L : List Xtk} {t u : Xtk} {m : Nat} (h3 : t.kd = 3) (h : t.tx ≠ []) (hm : L.length = m + 1) (hu : L[m]? = some u) (hk : u.kd = 3) : addT L t = L.set m ⟨u.kd, u.nm, u.ats, u.tx ++ t.tx⟩ := by
  rcases List.eq_nil_or_concat L with rfl | ⟨L', v, rfl⟩
  · cases hm
  · rw [List.concat_eq_append] at *
    have hl : L'.length = m := by simpa using hm
    subst hl
    have : v = u := by simpa using hu
    subst this
    unfold addT
    rw [if_pos h3, if_neg h, List.getLast?_concat]
    simp only
    rw [if_pos hk, List.dropLast_concat]
    simp
theorem xtP_set {w : World} {S : Nat → Prop} {v : Array Value} {x : Xtk} {y : List UInt8} (h : XtP w S v x) (hy : y.length ≤ 9223372036854775807) : XtP w S (v.setIfInBounds 3 (.string ⟨y.toArray⟩)) ⟨x.kd, x.nm, x.ats, y⟩ := by
  obtain ⟨A, c, rfl, h1, h2, h3, h4, h5, h6⟩ := h
  exact ⟨A, c, rfl, h1, h2, hy, h4, h5, h6⟩
section
variable (L : List Xtk) (A : Option Addr) (n c base : Nat) (S : Nat → Prop) (t : Xtk) (B : Option Addr) (d : Nat) (w : World)
end
end Go.Proofs.Ytjmmgekildlckaa
end
section
namespace Go.Proofs.Ytjmmgekildlckaa
open Go.RowKit Go.Nst
set_option maxRecDepth 100000
set_option linter.unusedVariables false
set_option linter.unusedSimpArgs false

theorem openD_tx {n : List UInt8} : ∀ (k : Nat) {ats : List Xat} {l b : List UInt8} {ts : List Xtk}, openD n k ats l = some (ts, b) → ts.length ≤ 2 ∧ ∀ t ∈ ts, t.tx = [] := by
  intro k
  induction k with
  | zero =>
    intro ats l b ts h
    unfold openD at h
    split at h
    · injection h with h; injection h with h _; subst h; simp
    · split at h
      · injection h with h; injection h with h _; subst h; simp
      · split at h
        · cases h
        · split at h <;> cases h
  | succ k ih =>
    intro ats l b ts h
    unfold openD at h
    split at h
    · injection h with h; injection h with h _; subst h; simp
    · split at h
      · injection h with h; injection h with h _; subst h; simp
      · split at h
        · cases h
        · split at h
          · cases h
          · simp only at h
            split at h
            · cases h
            · exact ih h
theorem partD_tx {l b : List UInt8} {ts : List Xtk} (hl : l.length ≤ 100000) (h : partD l = some (ts, b)) : ts.length ≤ 2 ∧ ∀ t ∈ ts, t.tx.length ≤ 1000000 := by
  unfold partD at h
  split at h
  · split at h
    · cases h
    · injection h with h; injection h with h _; subst h; simp
  split at h
  · split at h
    · cases h
    · injection h with h; injection h with h _; subst h; simp
  split at h
  · split at h
    · cases h
    · split at h
      · cases h
      · injection h with h; injection h with h _; subst h; simp
  split at h
  · split at h
    · cases h
    · rename_i a b' hu
      injection h with h; injection h with h _; subst h
      have := uptoD_len hu
      rw [List.length_drop] at this
      refine ⟨by simp, fun t ht => ?_⟩
      simp only [List.mem_cons, List.not_mem_nil, or_false] at ht
      subst ht
      simp only
      omega
  split at h
  · split at h
    · cases h
    · split at h
      · cases h
      · split at h
        · injection h with h; injection h with h _; subst h; simp
        · cases h
  split at h
  · split at h
    · cases h
    · have := openD_tx _ h
      exact ⟨this.1, fun t ht => by rw [this.2 t ht]; simp⟩
  · injection h with h; injection h with h _; subst h
    refine ⟨by simp, fun t ht => ?_⟩
    simp only [List.mem_cons, List.not_mem_nil, or_false] at ht
    subst ht
    have h1 := readL_len _ (l.takeWhile txtB) (Nat.le_refl _)
    have h2 : (l.takeWhile txtB).length ≤ l.length := (List.takeWhile_prefix txtB).length_le
    simp only
    omega
def txB (K : Nat) (L : List Xtk) : Prop := ∀ u ∈ L, u.tx.length ≤ K
theorem txB.add {K : Nat} {L : List Xtk} {t : Xtk} (h : txB K L) (ht : t.tx.length ≤ 1000000) : txB (K + 1000000) (addT L t) := by
  have h1 : txB (K + 1000000) L := fun u hu => by have := h u hu; omega
  have h2 : txB (K + 1000000) (L ++ [t]) := fun u hu => by
    rcases List.mem_append.1 hu with hu | hu
    · exact h1 u hu
    · simp only [List.mem_cons, List.not_mem_nil, or_false] at hu
      subst hu
      omega
  unfold addT
  split
  · split
    · exact h1
    · split
      · rename_i u hu
        split
        · intro v hv
          rcases List.mem_append.1 hv with hv | hv
          · exact h1 v (List.dropLast_subset L hv)
          · simp only [List.mem_cons, List.not_mem_nil, or_false] at hv
            subst hv
            have := h u (List.mem_of_getLast? hu)
            simp only [List.length_append]
            omega
        · exact h2
      · exact h2
  · exact h2
theorem txB.adds : ∀ {ts : List Xtk} {K : Nat} {L : List Xtk}, txB K L → (∀ t ∈ ts, t.tx.length ≤ 1000000) → txB (K + 1000000 * ts.length) (ts.foldl addT L)
  | [], K, L, h, _ => by simpa using h
  | t :: ts, K, L, h, ht => by
    have h1 := txB.adds (ts := ts) (h.add (ht t (by simp))) (fun u hu => ht u (by simp [hu]))
    simp only [List.foldl_cons, List.length_cons]
    rw [show K + 1000000 * (ts.length + 1) = K + 1000000 + 1000000 * ts.length by omega]
    exact h1
def RetTok (w : World) (r : XRes) (e : Ending) (w' : World) : Prop := ∃ A n c, e = .returned (.tuple #[.slice A n c, .int .i64 r.2.1, .int .i64 r.2.2]) ∧ XtA w' (fun b => w.heap.size ≤ b) A n r.1 ∧ n ≤ c ∧ c ≤ 9223372036854775807 ∧ Below w.heap.size w w'
/-- a part's tokens stand outside the row -/
def TkP (wv : World) (B : Nat) (own : Option Nat) (At : Option Addr) (m : Nat) (ts : List Xtk) : Prop := XtA wv (fun b => B ≤ b ∧ some b ≠ own) At m ts
theorem TkP.bel {wv w1 : World} {B : Nat} {own : Option Nat} {At : Option Addr} {m : Nat} {ts : List Xtk} (h : TkP wv B own At m ts) (hb : Below wv.heap.size wv w1) : TkP w1 B own At m ts := RwA.bel xtP h hb
theorem tokF_some {N f : Nat} {out : List Xtk} {d b : List UInt8} {ts : List Xtk} (hd : 0 < d.length) (hf : d.length ≤ f) (h : partD d = some (ts, b)) : tokF N f out d = if 8192 < (ts.foldl addT out).length then ([], (N : Int) - (d.length : Int), 3) else tokF N (f - 1) (ts.foldl addT out) b := by
  cases d with
  | nil => simp at hd
  | cons c l =>
    obtain ⟨f, rfl⟩ : ∃ g, f = g + 1 := ⟨f - 1, by simp only [List.length_cons] at hf; omega⟩
    rw [tokF, h]
    rfl
theorem tokF_none {N f : Nat} {out : List Xtk} {d : List UInt8} (hd : 0 < d.length) (hf : d.length ≤ f) (h : partD d = none) : tokF N f out d = ([], (N : Int) - (d.length : Int), 80) := by
  cases d with
  | nil => simp at hd
  | cons c l =>
    obtain ⟨f, rfl⟩ : ∃ g, f = g + 1 := ⟨f - 1, by simp only [List.length_cons] at hf; omega⟩
    rw [tokF, h]
theorem part_len {d b : List UInt8} {ts : List Xtk} (hd : 0 < d.length) (h : partD d = some (ts, b)) : ts.length + b.length ≤ d.length ∧ b.length < d.length := by
  cases d with
  | nil => simp at hd
  | cons c l => exact partD_len h
end Go.Proofs.Ytjmmgekildlckaa
end
section
namespace Go.Proofs.Ytjmmgekildlckaa
open Go.RowKit Go.Nst
set_option maxRecDepth 100000
set_option linter.unusedVariables false
set_option linter.unusedSimpArgs false

theorem take_snoc_eq {α : Type} [DecidableEq α] {l l2 : List α} {k : Nat} {a b : α} (h1 : l[k]? = some a) (h2 : l2[k]? = some b) (h : l.take k = l2.take k) (he : a = b) : l.take (k + 1) = l2.take (k + 1) := by
  rw [List.take_add_one, List.take_add_one, h1, h2, h, he]
theorem ne_of_at {α : Type} {l l2 : List α} {k : Nat} {a b : α} (h1 : l[k]? = some a) (h2 : l2[k]? = some b) (he : a ≠ b) : l ≠ l2 := by
  rintro rfl
  rw [h1] at h2
  injection h2 with h2
  exact he h2
theorem bel_of_drew {w w' : World} (h : ∃ m, w' = w.drewN m) : Below w.heap.size w w' := by
  obtain ⟨m, rfl⟩ := h
  exact Nst.below_drewN (Below.refl _ _) m
theorem quiet_drew {P : Program} {f : FuncId} {args : Array Value} {w : World} {n : Nat} {v : Value}
    (h : Calls P f args (w.drewN n) fun e w' => e = .returned v ∧ ∃ m, w' = (w.drewN n).drewN m) : Calls P f args (w.drewN n) fun e w'' => e = .returned v ∧ ∃ m, w'' = w.drewN m :=
  h.mono fun _ _ ⟨he, m, hm⟩ => ⟨he, n + m, by rw [hm]; simp⟩
theorem xtk_eq (t u : Xtk) : decide (t = u) = ((t.kd == u.kd) && (t.nm == u.nm) && (t.tx == u.tx) && decide (t.ats = u.ats)) := by
  obtain ⟨k, n, a, x⟩ := t
  obtain ⟨k2, n2, a2, x2⟩ := u
  rw [Bool.eq_iff_iff]
  simp
  constructor
  · rintro ⟨h1, h2, h3, h4⟩; exact ⟨⟨⟨h1, h2⟩, h4⟩, h3⟩
  · rintro ⟨⟨⟨h1, h2⟩, h4⟩, h3⟩; exact ⟨h1, h2, h3, h4⟩
end Go.Proofs.Ytjmmgekildlckaa
end
