/-
  Blanks: strings.ContainsRune at any rune; blank$1.
  Blanks; what a run takes: once for each test.
  The reader's run, at each test.
  The reader's methods: blank, take, must, upto, name, value, attr; Name.
  The reader's value, attr.
  The reader's attr; named.
  named: slices.ContainsFunc over attributes at named$1.
  text, kind, close: tokens handed back.
  close: a tag that closes.
  What the reader's methods do, told of the document's: plain Lean.
-/
import Derived.Test.YtjmmgekildlckaaXmB
import Derived.Test.YtjmmgekildlckaaShelf
import Derived.BigQuiet
import Derived.Laws.Runes
import Derived.WalkMore
section
namespace Go.Proofs.Ytjmmgekildlckaa
open Go.RowKit Go.Nst
set_option maxRecDepth 100000
set_option linter.unusedVariables false
set_option linter.unusedSimpArgs false

theorem quiet_same2 {P : Program} {f : FuncId} {args : Array Value} {w : World} {q n : Nat} {v : Value}
    (h : Calls P f args (w.drewN (q + n)) fun e w' => e = .returned v ∧ w.drewN (q + n) = w') : Calls P f args (w.drewN (q + n)) fun e w'' => e = .returned v ∧ ∃ m, w'' = w.drewN (q + m) :=
  h.mono fun _ _ ⟨he, hm⟩ => ⟨he, n, hm.symm⟩
theorem ib_high (u : UInt8) (hu : 128 ≤ u.toNat) : ∀ (l : List UInt8) (hl : ∀ c ∈ l, c.toNat < 128), Lib.indexByte l ((u.toNat : Int).toNat.toUInt8) = -1
  | [], _ => rfl
  | c :: l, hl => by
    have e : (u.toNat : Int).toNat.toUInt8 = u := by simp
    have ih := ib_high u hu l (fun c hc => hl c (by simp [hc]))
    rw [e] at ih ⊢
    have hne : (c == u) = false := by
      rw [beq_eq_false_iff_ne]
      rintro rfl
      have := hl c (by simp)
      omega
    unfold Lib.indexByte
    rw [hne, ih]
    rfl
theorem ib_any (s : ByteArray) (u : UInt8) (hu : 128 ≤ u.toNat) (hl : ∀ c ∈ s.data.toList, c.toNat < 128) (w : World) : ∀ n, Calls Try.prog 60 #[.string s, .int .u8 (u.toNat : Int)] (w.drewN n) fun e w' => e = .returned (.int .i64 (-1)) ∧ w.drewN n = w' := fun n => by
  have := Try.strings_IndexByte s (u.toNat : Int) (w.drewN n)
  rw [ib_high u hu _ hl] at this
  exact this.mono fun e w' ⟨h1, h2⟩ => ⟨h1, h2.symm⟩
theorem blk_low : ∀ c ∈ (⟨#[32, 9, 13, 10]⟩ : ByteArray).data.toList, c.toNat < 128 := by decide
end Go.Proofs.Ytjmmgekildlckaa
end
section
namespace Go.Proofs.Ytjmmgekildlckaa
open Go.RowKit Go.Nst
set_option maxRecDepth 100000
set_option linter.unusedVariables false
set_option linter.unusedSimpArgs false

theorem ib_blank (r : Int) (h0 : 0 ≤ r) (h1 : r < 128) : decide (0 ≤ Lib.indexByte (⟨#[32, 9, 13, 10]⟩ : ByteArray).data.toList r.toNat.toUInt8) = blkR r := by
  have key : ∀ k : Fin 128, decide (0 ≤ Lib.indexByte [32, 9, 13, 10] (k.val.toUInt8)) = blkR (k.val : Int) := by decide +kernel
  have := key ⟨r.toNat, by omega⟩
  simp only at this
  rw [show ((r.toNat : Nat) : Int) = r by omega] at this
  exact this
theorem firstL_bytes (l : List UInt8) (h : ∀ c t, l = c :: t → 128 ≤ c.toNat) : ∀ x ∈ l.take (firstL l).2, 128 ≤ x.toNat := by
  cases l with
  | nil => intro x hx; simp at hx
  | cons c t =>
    have hc := h c t rfl
    have one : ∀ x ∈ (c :: t).take 1, 128 ≤ x.toNat := by
      intro x hx
      simp only [List.take_succ_cons, List.take_zero, List.mem_singleton] at hx
      subst hx
      exact hc
    unfold firstL
    dsimp only
    rw [if_neg (by omega)]
    split
    · match t with
      | [] => exact one
      | d :: t =>
        simp only
        split
        · rename_i h2
          simp only [tailB, Bool.and_eq_true, decide_eq_true_eq] at h2
          intro x hx
          simp only [List.take_succ_cons, List.take_zero, List.mem_cons, List.not_mem_nil, or_false] at hx
          rcases hx with rfl | rfl <;> omega
        · exact one
    · split
      · match t with
        | [] => exact one
        | [d] => exact one
        | d :: e :: t =>
          simp only
          split
          · rename_i h2
            simp only [tailB, Bool.and_eq_true, decide_eq_true_eq] at h2
            intro x hx
            simp only [List.take_succ_cons, List.take_zero, List.mem_cons, List.not_mem_nil, or_false] at hx
            rcases hx with rfl | rfl | rfl <;> omega
          · exact one
      · split
        · match t with
          | [] => exact one
          | [d] => exact one
          | [d, e] => exact one
          | d :: e :: f :: t =>
            simp only
            split
            · rename_i h2
              simp only [tailB, Bool.and_eq_true, decide_eq_true_eq] at h2
              intro x hx
              simp only [List.take_succ_cons, List.take_zero, List.mem_cons, List.not_mem_nil, or_false] at hx
              rcases hx with rfl | rfl | rfl | rfl <;> omega
            · exact one
        · exact one
/-- a test of runes, told of bytes -/
def RunT (R : Int → Bool) (p : UInt8 → Bool) : Prop := ∀ (u : UInt8) (t : List UInt8), R ((firstL (u :: t)).1 : Int) = p u ∧ (p u = true → ((u :: t).take (firstL (u :: t)).2).all p = true)
theorem runT_of {R : Int → Bool} {p : UInt8 → Bool} (h1 : ∀ u : UInt8, R (u.toNat : Int) = p u) {b : Bool} (h2 : ∀ c : Int, 128 ≤ c → R c = b) : RunT R p := by
  intro u t
  by_cases hu : u.toNat < 128
  · rw [firstL_low u t hu]
    refine ⟨h1 u, fun h => ?_⟩
    simp [h]
  · have hh := firstL_high u t (by omega)
    have hp : ∀ x : UInt8, 128 ≤ x.toNat → p x = b := fun x hx => by rw [← h1 x]; exact h2 _ (by omega)
    refine ⟨by rw [h2 _ (by omega), hp u (by omega)], fun h => ?_⟩
    rw [List.all_eq_true]
    intro x hx
    rw [hp x (firstL_bytes (u :: t) (by intro c t' e; injection e with e1 e2; subst e1; omega) x hx), ← hp u (by omega)]
    exact h
theorem runT_go : RunT goR goB := runT_of goR_of (b := false) (by intro c hc; unfold goR begR; simp; omega)
theorem runT_blk : RunT blkR blkB := runT_of blkR_of (b := false) (by intro c hc; unfold blkR; simp; omega)
theorem runT_txt : RunT (fun c => c != 60) txtB := runT_of (by intro u; unfold txtB; rw [Bool.eq_iff_iff]; simp; omega) (b := true) (by intro c hc; simp; omega)
theorem take_more {p : UInt8 → Bool} {l : List UInt8} {pos n : Nat} (h : (l.take pos).all p = true) (h2 : ((l.drop pos).take n).all p = true) : (l.take (pos + n)).all p = true := by
  rw [List.take_add, List.all_append, h, h2]
  rfl
theorem take_stop {p : UInt8 → Bool} {l : List UInt8} {pos : Nat} {u : UInt8} (h : (l.take pos).all p = true) (hu : l[pos]? = some u) (hp : p u = false) : l.takeWhile p = l.take pos ∧ l.dropWhile p = l.drop pos := by
  have hlt := (List.getElem?_eq_some_iff.1 hu).1
  have hd : l.drop pos = u :: l.drop (pos + 1) := by rw [List.drop_eq_getElem_cons hlt, (List.getElem?_eq_some_iff.1 hu).2]
  have e : l = l.take pos ++ u :: l.drop (pos + 1) := by rw [← hd, List.take_append_drop]
  have := take_append_stop h u (l.drop (pos + 1)) hp
  rw [← e] at this
  rw [hd]
  exact this
theorem take_full {p : UInt8 → Bool} {l : List UInt8} {pos : Nat} (h : (l.take pos).all p = true) (hl : l.length ≤ pos) : l.takeWhile p = l ∧ l.dropWhile p = [] := by
  rw [List.take_of_length_le hl] at h
  exact Go.Nst.take_all h
theorem xstr_drop (l : List UInt8) (k : Nat) : (ByteArray.mk l.toArray).extract k l.length = ⟨(l.drop k).toArray⟩ := by
  have q := bl_from ⟨l.toArray⟩ k
  rw [size_of] at q
  rw [show bl ⟨l.toArray⟩ = l from bl_of l] at q
  rw [← q, bl_mk]
theorem xstr_take (l : List UInt8) (k : Nat) : (ByteArray.mk l.toArray).extract 0 k = ⟨(l.take k).toArray⟩ := by
  rw [str_upto, bl_of]
end Go.Proofs.Ytjmmgekildlckaa
end
section
namespace Go.Proofs.Ytjmmgekildlckaa
open Go.RowKit Go.Nst
set_option maxRecDepth 100000
set_option linter.unusedVariables false
set_option linter.unusedSimpArgs false

end Go.Proofs.Ytjmmgekildlckaa
end
section
namespace Go.Proofs.Ytjmmgekildlckaa
open Go.RowKit Go.Nst
set_option maxRecDepth 100000
set_option linter.unusedVariables false
set_option linter.unusedSimpArgs false

abbrev XS := List UInt8 × Bool
def cTake (p : List UInt8) (s : XS) : XS := if Lib.hasPrefix s.1 p = true then (s.1.drop p.length, s.2) else s
def cMust (p : List UInt8) (s : XS) : XS := if Lib.hasPrefix s.1 p = true then (s.1.drop p.length, s.2) else (s.1, true)
def cUpto (sep : List UInt8) (s : XS) : List UInt8 × XS := if (Lib.cut s.1 sep).2.2 = true then ((Lib.cut s.1 sep).1, ((Lib.cut s.1 sep).2.1, s.2)) else ([], (s.1, true))
def cName (s : XS) : List UInt8 × XS := (s.1.takeWhile goB, (s.1.dropWhile goB, s.2 || !nmB (s.1.takeWhile goB)))
def cBlank (s : XS) : XS := (s.1.dropWhile blkB, s.2)
theorem grown_two {a b c : World} {r : Option Nat} (h1 : a.grownBy b r) (h2 : b.grownBy c r) : a.grownBy c r := h1.trans h2
theorem nmB_nil : nmB [] = false := rfl
theorem nmB_cons (c : UInt8) (t : List UInt8) : nmB (c :: t) = (begB c && decide ((c :: t).length ≤ 64)) := rfl
/-! Name, value, attr -/
end Go.Proofs.Ytjmmgekildlckaa
end
section
namespace Go.Proofs.Ytjmmgekildlckaa
open Go.RowKit Go.Nst
set_option maxRecDepth 100000
set_option linter.unusedVariables false
set_option linter.unusedSimpArgs false

theorem ib_mem (c : UInt8) : ∀ l : List UInt8, decide (0 ≤ Lib.indexByte l c) = decide (c ∈ l)
  | [] => by simp [Lib.indexByte]
  | d :: l => by
    have ih := ib_mem c l
    unfold Lib.indexByte
    by_cases h : d = c
    · subst h; simp
    · have h1 : (d == c) = false := by simpa using h
      rw [h1]
      have h2 : (decide (c ∈ d :: l)) = decide (c ∈ l) := by simp [Ne.symm h]
      rw [h2, ← ih]
      by_cases hi : Lib.indexByte l c = -1
      · rw [hi]; rfl
      · have hge : -1 ≤ Lib.indexByte l c := by
          have : ∀ m : List UInt8, -1 ≤ Lib.indexByte m c := by
            intro m
            induction m with
            | nil => simp [Lib.indexByte]
            | cons a m ihm =>
              unfold Lib.indexByte
              split
              · omega
              · split <;> omega
          exact this l
        have h3 : (Lib.indexByte l c == -1) = false := by simpa using hi
        rw [h3]
        simp
        omega
def finV (r : List UInt8 × XS) : List UInt8 × XS := (readL r.1, (r.2.1, r.2.2 || decide ((60 : UInt8) ∈ r.1)))
def cValue (s : XS) : List UInt8 × XS := finV (if Lib.hasPrefix s.1 [34] = true then cUpto [34] (cTake [34] s) else cUpto [39] (cMust [39] (cTake [34] s)))
theorem cTake_len (p : List UInt8) (s : XS) : (cTake p s).1.length ≤ s.1.length := by unfold cTake; split <;> simp
theorem cMust_len (p : List UInt8) (s : XS) : (cMust p s).1.length ≤ s.1.length := by unfold cMust; split <;> simp
theorem cBlank_len (s : XS) : (cBlank s).1.length ≤ s.1.length := dropW_len _ _
theorem cName_len (s : XS) : (cName s).2.1.length ≤ s.1.length ∧ (cName s).1.length ≤ s.1.length := ⟨dropW_len _ _, (List.takeWhile_prefix goB).length_le⟩
theorem cUpto_len (sep : List UInt8) (s : XS) : (cUpto sep s).1.length ≤ s.1.length ∧ (cUpto sep s).2.1.length ≤ s.1.length := by
  unfold cUpto
  split
  · rename_i h
    have := cut_len h
    simp only
    omega
  · simp
end Go.Proofs.Ytjmmgekildlckaa
end
section
namespace Go.Proofs.Ytjmmgekildlckaa
open Go.RowKit Go.Nst
set_option maxRecDepth 100000
set_option linter.unusedVariables false
set_option linter.unusedSimpArgs false

def cAttr3 (s : XS) : XS := cBlank (cMust [61] (cBlank (cName s).2))
def cAttr (s : XS) : Xat × XS := if (cAttr3 s).2 = true then (⟨(cName s).1, []⟩, cAttr3 s) else (⟨(cName s).1, (cValue (cAttr3 s)).1⟩, (cValue (cAttr3 s)).2)
theorem grown_alloc {a b : World} {r : Option Nat} (h : a.grownBy b r) (o : Obj) : a.grownBy (b.alloc o) r := grown_two h (only_of_below (bel_alloc (Below.refl _ _) o) r)
theorem grown_set {a b : World} {g k : Nat} (h : a.grownBy b (some g)) (hk : a.heap.size ≤ k) (j : Nat) (v : Value) : a.grownBy (b.setCell ⟨k, j, none⟩ v) (some g) := only_setCell h (.inr hk) v
theorem set2x {w : World} {k : Nat} {t : TypeId} {a b x y : Value} (h : Blk w k t #[a, b]) : Blk ((w.setCell ⟨k, 0, none⟩ x).setCell ⟨k, 1, none⟩ y) k t #[x, y] := by simpa using (h.set_ 0 x).set_ 1 y
end Go.Proofs.Ytjmmgekildlckaa
end
section
namespace Go.Proofs.Ytjmmgekildlckaa
open Go.RowKit Go.Nst
set_option maxRecDepth 100000
set_option linter.unusedVariables false
set_option linter.unusedSimpArgs false

def IdxX (w : World) (b : Bool) (e : Ending) (w' : World) : Prop := ∃ z : Int, e = .returned (.int .i64 z) ∧ decide (0 ≤ z) = b ∧ Below w.heap.size w w'
def hasNm (l : List Xat) (n : List UInt8) : Bool := l.any fun x => x.nm == n
end Go.Proofs.Ytjmmgekildlckaa
end
section
namespace Go.Proofs.Ytjmmgekildlckaa
open Go.RowKit Go.Nst
set_option maxRecDepth 100000
set_option linter.unusedVariables false
set_option linter.unusedSimpArgs false

/-- tokens handed back, in new blocks -/
def RetTx (w : World) (ts : List Xtk) (e : Ending) (w' : World) : Prop := ∃ A n c, e = .returned (.slice A n c) ∧ XtA w' (fun b => w.heap.size ≤ b) A n ts ∧ n ≤ c ∧ c ≤ 9223372036854775807 ∧ Below w.heap.size w w'
theorem xt_plain {w : World} {S : Nat → Prop} (k : Int) (n x : List UInt8) (hk : -9223372036854775808 ≤ k ∧ k ≤ 9223372036854775807) (hn : n.length ≤ 9223372036854775807) (hx : x.length ≤ 9223372036854775807) : XtP w S #[.int .i64 k, .string ⟨n.toArray⟩, .slice none 0 0, .string ⟨x.toArray⟩] ⟨k, n, [], x⟩ :=
  ⟨none, 0, rfl, hk, hn, hx, Nat.le_refl _, by omega, RwA.nil _⟩
/-- a literal of one token, in a new block -/
theorem xt_lit {w : World} {vs : Array Value} {t : Xtk} {B : Nat} (hB : B ≤ w.heap.size) (h : XtP w (fun b => B ≤ b) vs t) : XtA (w.alloc (.cells vs 68)) (fun b => B ≤ b) (some ⟨w.heap.size, 0, none⟩) 1 [t] :=
  (RwR.lit (e := 68) xtP h).at_ (fun b off e => by injection e with e; injection e with e; exact e ▸ hB)
def cKind (s : XS) : XS := ((cUpto [62] s).2.1, decide ((91 : UInt8) ∈ (cUpto [62] s).1) || (cUpto [62] s).2.2)
end Go.Proofs.Ytjmmgekildlckaa
end
section
namespace Go.Proofs.Ytjmmgekildlckaa
open Go.RowKit Go.Nst
set_option maxRecDepth 100000
set_option linter.unusedVariables false
set_option linter.unusedSimpArgs false

def cClose (s : XS) : XS := cMust [62] (cBlank (cName s).2)
end Go.Proofs.Ytjmmgekildlckaa
end
section
namespace Go.Proofs.Ytjmmgekildlckaa
open Go.RowKit Go.Nst
set_option maxRecDepth 100000
set_option linter.unusedVariables false
set_option linter.unusedSimpArgs false

theorem cName_some {l n r : List UInt8} (h : nameD l = some (n, r)) : cName (l, false) = (n, (r, false)) := by
  have hh := nameD_len h
  unfold cName
  simp only
  rw [← hh.2.2.2.1, ← hh.2.2.2.2.1, hh.2.2.2.2.2]
  rfl
theorem cName_none {l : List UInt8} (h : nameD l = none) : (cName (l, false)).2.2 = true := by
  unfold nameD at h
  unfold cName
  by_cases hn : nmB (l.takeWhile goB) = true
  · rw [if_pos hn] at h; cases h
  · simp only [Bool.false_or]
    simpa using hn
theorem cMust_bad (p : List UInt8) (s : XS) (h : s.2 = true) : (cMust p s).2 = true := by unfold cMust; split <;> simp [h]
theorem cUpto_bad (p : List UInt8) (s : XS) (h : s.2 = true) : (cUpto p s).2.2 = true := by unfold cUpto; split <;> simp [h]
theorem has_c1 {c d : UInt8} {t : List UInt8} : Lib.hasPrefix (c :: t) [d] = (d == c) := by simp [Lib.hasPrefix, List.isPrefixOf]
theorem cValue_q (q : UInt8) (r : List UInt8) (o : Option (List UInt8 × List UInt8)) (ho : o = if (Lib.cut r [q]).2.2 = true ∧ (60 : UInt8) ∉ (Lib.cut r [q]).1 then some (readL (Lib.cut r [q]).1, (Lib.cut r [q]).2.1) else none) :
    (∀ v b, o = some (v, b) → finV (cUpto [q] (r, false)) = (v, (b, false))) ∧ (o = none → (finV (cUpto [q] (r, false))).2.2 = true) := by
  subst ho
  unfold cUpto finV
  simp only
  by_cases hc : (Lib.cut r [q]).2.2 = true
  · rw [if_pos hc]
    by_cases h6 : (60 : UInt8) ∈ (Lib.cut r [q]).1
    · rw [if_neg (by simp [h6])]
      exact ⟨fun v b h => (by cases h), fun _ => by simp [h6]⟩
    · rw [if_pos ⟨hc, h6⟩]
      refine ⟨fun v b h => ?_, fun h => by cases h⟩
      injection h with h
      injection h with h1 h2
      simp [h1, h2, h6]
  · rw [if_neg hc, if_neg (fun h => hc h.1)]
    exact ⟨fun v b h => (by cases h), fun _ => by simp⟩
theorem cValue_of (l : List UInt8) : (∀ v b, valD l = some (v, b) → cValue (l, false) = (v, (b, false))) ∧ (valD l = none → (cValue (l, false)).2.2 = true) := by
  cases l with
  | nil =>
    refine ⟨fun v b h => (by cases h), fun _ => ?_⟩
    decide
  | cons q r =>
    by_cases h34 : q = 34
    · subst h34
      have := cValue_q 34 r (valD (34 :: r)) (by simp only [valD]; rw [if_pos (.inl trivial)])
      have e : cValue (34 :: r, false) = finV (cUpto [34] (r, false)) := by
        unfold cValue cTake
        simp [has_c1]
      rw [e]
      exact this
    · by_cases h39 : q = 39
      · subst h39
        have := cValue_q 39 r (valD (39 :: r)) (by simp only [valD]; rw [if_pos (.inr trivial)])
        have e : cValue (39 :: r, false) = finV (cUpto [39] (r, false)) := by
          unfold cValue cTake cMust
          simp [has_c1]
        rw [e]
        exact this
      · have e : valD (q :: r) = none := by simp only [valD]; rw [if_neg (by rintro (h | h); (· exact h34 h); (· exact h39 h))]
        rw [e]
        refine ⟨fun v b h => (by cases h), fun _ => ?_⟩
        have h1 : Lib.hasPrefix (q :: r) [34] = false := by rw [has_c1]; simpa using Ne.symm h34
        have h2 : Lib.hasPrefix (q :: r) [39] = false := by rw [has_c1]; simpa using Ne.symm h39
        unfold cValue
        rw [if_neg (by rw [h1]; simp)]
        unfold finV
        have : (cUpto [39] (cMust [39] (cTake [34] (q :: r, false)))).2.2 = true := by
          refine cUpto_bad _ _ ?_
          unfold cMust cTake
          simp [h1, h2]
        rw [this]
        rfl
theorem cAttr_of (l : List UInt8) : (∀ a b, attrD l = some (a, b) → cAttr (l, false) = (a, (b, false))) ∧ (attrD l = none → (cAttr (l, false)).2.2 = true) := by
  unfold attrD
  rcases hn : nameD l with _ | ⟨n, r⟩
  · refine ⟨fun a b h => (by cases h), fun _ => ?_⟩
    have h3 : (cAttr3 (l, false)).2 = true := by
      unfold cAttr3 cBlank
      refine cMust_bad _ _ ?_
      exact cName_none hn
    unfold cAttr
    rw [if_pos h3]
    exact h3
  · have hc := cName_some hn
    simp only
    rcases hr : r.dropWhile blkB with _ | ⟨c, t⟩
    · refine ⟨fun a b h => (by cases h), fun _ => ?_⟩
      have h3 : (cAttr3 (l, false)).2 = true := by
        unfold cAttr3
        rw [hc]
        unfold cBlank
        simp only
        rw [hr]
        rfl
      unfold cAttr
      rw [if_pos h3]
      exact h3
    · simp only
      by_cases h61 : c = 61
      · subst h61
        rw [if_pos rfl]
        have h3 : cAttr3 (l, false) = (t.dropWhile blkB, false) := by
          unfold cAttr3
          rw [hc]
          unfold cBlank
          simp only
          rw [hr]
          simp [cMust, has_c1]
        have hv := cValue_of (t.dropWhile blkB)
        unfold cAttr
        rw [h3, if_neg (by simp), hc]
        rcases hvv : valD (t.dropWhile blkB) with _ | ⟨v, b'⟩
        · exact ⟨fun a b h => (by cases h), fun _ => hv.2 hvv⟩
        · rw [hv.1 v b' hvv]
          refine ⟨fun a b h => ?_, fun h => by cases h⟩
          injection h with h
          injection h with h1 h2
          rw [← h1, ← h2]
      · rw [if_neg h61]
        refine ⟨fun a b h => (by cases h), fun _ => ?_⟩
        have h3 : (cAttr3 (l, false)).2 = true := by
          unfold cAttr3
          rw [hc]
          unfold cBlank
          simp only
          rw [hr]
          have : Lib.hasPrefix (c :: t) [61] = false := by rw [has_c1]; simpa using Ne.symm h61
          simp [cMust, this]
        unfold cAttr
        rw [if_pos h3]
        exact h3
end Go.Proofs.Ytjmmgekildlckaa
end
