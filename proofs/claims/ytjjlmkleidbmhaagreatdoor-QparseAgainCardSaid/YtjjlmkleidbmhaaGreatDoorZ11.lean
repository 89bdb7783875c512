/-
  Queries' texts and what they lean on, part 11: only what the claims need.
-/
import Derived.Test.YtjjlmkleidbmhaaGreatDoorZ10
import Derived.Lib.Replace
import Derived.Lib.ItoaNum
import Derived.Lib.ItoaMem
import Derived.Lib.Join
import Derived.Test.YtjjlmkleidbmhaaGreatDoorZ01
import Derived.WalkKit
import Derived.IntWalk
import Derived.Test.YtjjlmkleidbmhaaGreatDoorProg
import Derived.Test.YtjjlmkleidbmhaaGreatDoorZ03
import Derived.Test.YtjjlmkleidbmhaaGreatDoorZ09
import Derived.Test.YtjjlmkleidbmhaaGreatDoorZ06
section
namespace Go.Proofs.YtjjlmkleidbmhaaGreatDoor
open Go.RowKit Go.Nst
set_option maxRecDepth 100000
set_option linter.unusedVariables false
set_option linter.unusedSimpArgs false

/-- a byte that ends a run -/
def sideB (c : UInt8) : Bool := c == 32 || c == 40 || c == 41
def runB (c : UInt8) : Bool := !sideB c
def ptsF : Nat → List UInt8 → Int → List Pt
  | 0, _, _ => []
  | _ + 1, [], _ => []
  | f + 1, c :: r, i => if c == 32 then ptsF f r (i + 1) else if sideB c then ⟨[c], i⟩ :: ptsF f r (i + 1) else ⟨c :: r.takeWhile runB, i⟩ :: ptsF f (r.dropWhile runB) (i + 1 + (r.takeWhile runB).length)
theorem dw_le {p : UInt8 → Bool} : ∀ l : List UInt8, (l.dropWhile p).length ≤ l.length
  | [] => by simp
  | c :: r => by
    rw [List.dropWhile_cons]
    split
    · have := dw_le (p := p) r; simp; omega
    · exact Nat.le_refl _
theorem ptsF_fuel : ∀ (n f g : Nat) (l : List UInt8) (i : Int), l.length ≤ n → l.length ≤ f → l.length ≤ g → ptsF f l i = ptsF g l i
  | 0, f, g, l, i, h, _, _ => by
    obtain rfl : l = [] := List.eq_nil_of_length_eq_zero (by omega)
    cases f <;> cases g <;> rfl
  | n + 1, f, g, l, i, h, hf, hg => by
    cases l with
    | nil => cases f <;> cases g <;> rfl
    | cons c r =>
      cases f with
      | zero => simp at hf
      | succ f =>
      cases g with
      | zero => simp at hg
      | succ g =>
      simp only [List.length_cons] at h hf hg
      have hd := dw_le (p := runB) r
      simp only [ptsF]
      rw [ptsF_fuel n f g r (i + 1) (by omega) (by omega) (by omega), ptsF_fuel n f g (r.dropWhile runB) _ (by omega) (by omega) (by omega)]
/-- the parts of a text that stands at a place -/
def ptsL (l : List UInt8) (i : Int) : List Pt := ptsF l.length l i
theorem ptsL_nil (i : Int) : ptsL [] i = [] := rfl
theorem ptsL_blank (r : List UInt8) (i : Int) : ptsL (32 :: r) i = ptsL r (i + 1) := by
  unfold ptsL
  simp only [List.length_cons, ptsF]
  rfl
theorem ptsL_side {c : UInt8} (r : List UInt8) (i : Int) (h : sideB c = true) (h0 : (c == 32) = false) : ptsL (c :: r) i = ⟨[c], i⟩ :: ptsL r (i + 1) := by
  unfold ptsL
  simp only [List.length_cons, ptsF, h, h0]
  rfl
theorem ptsL_run {c : UInt8} (r : List UInt8) (i : Int) (h : sideB c = false) : ptsL (c :: r) i = ⟨c :: r.takeWhile runB, i⟩ :: ptsL (r.dropWhile runB) (i + 1 + (r.takeWhile runB).length) := by
  have h0 : (c == 32) = false := by
    unfold sideB at h
    simp only [Bool.or_eq_false_iff] at h
    exact h.1.1
  unfold ptsL
  simp only [List.length_cons, ptsF, h, h0]
  have hd := dw_le (p := runB) r
  rw [ptsF_fuel r.length r.length (r.dropWhile runB).length (r.dropWhile runB) _ hd hd (Nat.le_refl _)]
  rfl
theorem tw_cut {p : UInt8 → Bool} {c : UInt8} (hc : p c = false) (b : List UInt8) : ∀ r : List UInt8, (r ++ c :: b).takeWhile p = r.takeWhile p ∧ (r ++ c :: b).dropWhile p = r.dropWhile p ++ c :: b
  | [] => by
    rw [List.nil_append, List.takeWhile_cons, List.dropWhile_cons, hc]
    exact ⟨rfl, rfl⟩
  | x :: r => by
    obtain ⟨h1, h2⟩ := tw_cut hc b r
    rw [List.cons_append, List.takeWhile_cons, List.dropWhile_cons, List.takeWhile_cons, List.dropWhile_cons]
    by_cases hx : p x = true
    · rw [if_pos hx, if_pos hx, if_pos hx, if_pos hx, h1, h2]
      exact ⟨rfl, rfl⟩
    · rw [if_neg hx, if_neg hx, if_neg hx, if_neg hx]
      exact ⟨rfl, rfl⟩
/-- a text is cut at a side byte -/
theorem pts_cut {c : UInt8} (hc : sideB c = true) (b : List UInt8) : ∀ (n : Nat) (a : List UInt8) (i : Int), a.length ≤ n → ptsL (a ++ c :: b) i = ptsL a i ++ ptsL (c :: b) (i + a.length)
  | 0, a, i, h => by
    obtain rfl : a = [] := List.eq_nil_of_length_eq_zero (by omega)
    simp [ptsL_nil]
  | n + 1, a, i, h => by
    cases a with
    | nil => simp [ptsL_nil]
    | cons x r =>
      simp only [List.length_cons] at h
      rw [List.cons_append]
      by_cases h32 : (x == 32) = true
      · obtain rfl : x = 32 := by simpa using h32
        rw [ptsL_blank, ptsL_blank, pts_cut hc b n r (i + 1) (by omega)]
        rw [show i + 1 + (r.length : Int) = i + ((32 :: r).length : Nat) by simp; omega]
      · have h32 : (x == 32) = false := by simpa using h32
        by_cases hs : sideB x = true
        · rw [ptsL_side _ _ hs h32, ptsL_side _ _ hs h32, pts_cut hc b n r (i + 1) (by omega)]
          rw [show i + 1 + (r.length : Int) = i + ((x :: r).length : Nat) by simp; omega]
          rfl
        · have hs : sideB x = false := by simpa using hs
          obtain ⟨h1, h2⟩ := tw_cut (p := runB) (c := c) (by simp [runB, hc]) b r
          rw [ptsL_run _ _ hs, ptsL_run _ _ hs, h1, h2]
          have hd := dw_le (p := runB) r
          rw [pts_cut hc b n (r.dropWhile runB) _ (by omega)]
          have hl : (r.takeWhile runB).length + (r.dropWhile runB).length = r.length := by
            rw [← List.length_append, List.takeWhile_append_dropWhile]
          rw [show i + 1 + ((r.takeWhile runB).length : Int) + ((r.dropWhile runB).length : Int) = i + ((x :: r).length : Nat) by simp only [List.length_cons]; omega]
          rfl
theorem pts_app {a b : List UInt8} (h : b = [] ∨ ∃ c r, b = c :: r ∧ sideB c = true) (i : Int) : ptsL (a ++ b) i = ptsL a i ++ ptsL b (i + a.length) := by
  rcases h with rfl | ⟨c, r, rfl, hc⟩
  · rw [List.append_nil, ptsL_nil, List.append_nil]
  · exact pts_cut hc r a.length a i (Nat.le_refl _)
/-- a run is one part -/
theorem pts_one {l : List UInt8} (h0 : l ≠ []) (h : l.all runB = true) (i : Int) : ptsL l i = [⟨l, i⟩] := by
  cases l with
  | nil => exact absurd rfl h0
  | cons c r =>
    simp only [List.all_cons, Bool.and_eq_true] at h
    have hs : sideB c = false := by have := h.1; unfold runB at this; simpa using this
    have ht : r.takeWhile runB = r ∧ r.dropWhile runB = [] := by
      have hr := h.2
      clear h h0
      induction r with
      | nil => exact ⟨rfl, rfl⟩
      | cons x r ih =>
        simp only [List.all_cons, Bool.and_eq_true] at hr
        rw [List.takeWhile_cons, List.dropWhile_cons, if_pos hr.1, if_pos hr.1, (ih hr.2).1, (ih hr.2).2]
        exact ⟨rfl, rfl⟩
    rw [ptsL_run _ _ hs, ht.1, ht.2, ptsL_nil]
/-- the parts' texts -/
def txtL (l : List UInt8) (i : Int) : List (List UInt8) := (ptsL l i).map Pt.s
theorem txt_app {a b : List UInt8} (h : b = [] ∨ ∃ c r, b = c :: r ∧ sideB c = true) (i : Int) : txtL (a ++ b) i = txtL a i ++ txtL b (i + a.length) := by
  unfold txtL
  rw [pts_app h, List.map_append]
mutual
def shwQ (lf : Int → Int → List UInt8 → List UInt8) : Qy → List UInt8
  | ⟨o, n, s, ks⟩ => if o = 5 then [110, 111, 116] ++ shwL lf [32] 5 ks else if o = 3 then (shwL lf [32] 3 ks).drop 1 else if o = 4 then (shwL lf [32, 111, 114, 32] 4 ks).drop 4 else lf o n s
/-- kids within an operation, each behind a text -/
def shwL (lf : Int → Int → List UInt8 → List UInt8) (sp : List UInt8) (i : Int) : List Qy → List UInt8
  | [] => []
  | k :: ks => sp ++ (if k.op = 4 ∨ (k.op = 3 ∧ i ≠ 4) then 40 :: (shwQ lf k ++ [41]) else shwQ lf k) ++ shwL lf sp i ks
end
def shwK (lf : Int → Int → List UInt8 → List UInt8) (i : Int) (k : Qy) : List UInt8 := if k.op = 4 ∨ (k.op = 3 ∧ i ≠ 4) then 40 :: (shwQ lf k ++ [41]) else shwQ lf k
theorem shwL_cons (lf : Int → Int → List UInt8 → List UInt8) (sp : List UInt8) (i : Int) (k : Qy) (ks : List Qy) : shwL lf sp i (k :: ks) = sp ++ shwK lf i k ++ shwL lf sp i ks := by
  simp only [shwL, shwK]
/-- what the leaves' texts must be: a run each -/
def Lrs (lf : Int → Int → List UInt8 → List UInt8) : Prop := ∀ o n s, o ≠ 3 → o ≠ 4 → o ≠ 5 → oneQ o n s 0 = true → lf o n s ≠ [] ∧ (lf o n s).all runB = true
section
variable {lf : Int → Int → List UInt8 → List UInt8}
theorem txt_one {l : List UInt8} (h0 : l ≠ []) (h : l.all runB = true) (i : Int) : txtL l i = [l] := by
  unfold txtL
  rw [pts_one h0 h]
  rfl
theorem txt_paren (x : List UInt8) (i : Int) : txtL (40 :: (x ++ [41])) i = tOpn :: (txtL x (i + 1) ++ [tCls]) := by
  unfold txtL
  rw [ptsL_side _ _ (by decide) (by decide), List.map_cons, pts_app (.inr ⟨41, [], rfl, by decide⟩), List.map_append, ptsL_side _ _ (by decide) (by decide), ptsL_nil]
  rfl
theorem shwL_side (sp : List UInt8) (i : Int) (hsp : ∃ r, sp = 32 :: r) (ks : List Qy) : shwL lf sp i ks = [] ∨ ∃ c r, shwL lf sp i ks = c :: r ∧ sideB c = true := by
  cases ks with
  | nil => exact .inl (by simp only [shwL])
  | cons k ks =>
    obtain ⟨r, rfl⟩ := hsp
    rw [shwL_cons]
    exact .inr ⟨32, _, by simp only [List.cons_append, List.append_assoc]; rfl, by decide⟩
/-- WHAT A QUERY'S TEXT HAS AS PARTS -/
theorem shown_parts (hl : Lrs lf) (q : Qy) : plaQ q = true → (∀ i, txtL (shwQ lf q) i = tokQ lf q) ∧ ∀ o i, txtL (shwK lf o q) i = tokK lf o q := by
  refine Qy.ind (p := fun q => plaQ q = true → (∀ i, txtL (shwQ lf q) i = tokQ lf q) ∧ ∀ o i, txtL (shwK lf o q) i = tokK lf o q) ?_ q
  intro o n s ks ih hp
  obtain ⟨h1, h2⟩ := pla_parts hp
  obtain ⟨k1, k2, k3⟩ := one_kids h1
  have hm := plaL_mem h2
  have blanks : ∀ (o : Int) (l : List Qy), (∀ k ∈ l, k ∈ ks) → ∀ i, txtL (shwL lf [32] o l) i = tokL lf false o l := by
    intro o l
    induction l with
    | nil => intro _ i; simp only [shwL, tokL]; rfl
    | cons k l ihl =>
      intro hk i
      rw [shwL_cons, tokL_cons, txt_app (shwL_side [32] o ⟨[], rfl⟩ l)]
      rw [ihl (fun k' hk' => hk k' (by simp [hk']))]
      have : txtL ([32] ++ shwK lf o k) i = tokK lf o k := by
        show (ptsL (32 :: shwK lf o k) i).map Pt.s = _
        rw [ptsL_blank]
        exact (ih k (hk k (by simp)) (hm k (hk k (by simp)))).2 o (i + 1)
      rw [this]
      rfl
  have ors : ∀ (l : List Qy), (∀ k ∈ l, k ∈ ks) → ∀ i, txtL (shwL lf [32, 111, 114, 32] 4 l) i = tokL lf true 4 l := by
    intro l
    induction l with
    | nil => intro _ i; simp only [shwL, tokL]; rfl
    | cons k l ihl =>
      intro hk i
      rw [shwL_cons, tokL_cons, txt_app (shwL_side _ 4 ⟨_, rfl⟩ l)]
      rw [ihl (fun k' hk' => hk k' (by simp [hk']))]
      have : txtL ([32, 111, 114, 32] ++ shwK lf 4 k) i = tOr :: tokK lf 4 k := by
        rw [show [32, 111, 114, 32] ++ shwK lf 4 k = [32, 111, 114] ++ 32 :: shwK lf 4 k by simp]
        rw [txt_app (.inr ⟨32, _, rfl, by decide⟩)]
        have e1 : txtL [32, 111, 114] i = [tOr] := by
          unfold txtL
          rw [ptsL_blank, pts_one (by simp) (by decide)]
          rfl
        have e2 : ∀ j, txtL (32 :: shwK lf 4 k) j = tokK lf 4 k := fun j => by
          unfold txtL
          rw [ptsL_blank]
          exact (ih k (hk k (by simp)) (hm k (hk k (by simp)))).2 4 (j + 1)
        rw [e1, e2]
        rfl
      rw [this]
      rfl
  have hq : ∀ i, txtL (shwQ lf ⟨o, n, s, ks⟩) i = tokQ lf ⟨o, n, s, ks⟩ := by
    intro i
    simp only [shwQ, tokQ]
    by_cases h5 : o = 5
    · rw [if_pos h5, if_pos h5, txt_app (shwL_side [32] 5 ⟨[], rfl⟩ ks), txt_one (by simp) (by decide), blanks 5 ks (fun k hk => hk)]
      rfl
    rw [if_neg h5, if_neg h5]
    by_cases h3 : o = 3
    · rw [if_pos h3, if_pos h3]
      obtain ⟨e1, _, _⟩ := k2 (.inl h3)
      rw [← blanks 3 ks (fun k hk => hk) (i - 1)]
      match ks, e1 with
      | k :: t, _ =>
      rw [shwL_cons]
      show txtL (shwK lf 3 k ++ shwL lf [32] 3 t) i = (ptsL (32 :: (shwK lf 3 k ++ shwL lf [32] 3 t)) (i - 1)).map Pt.s
      rw [ptsL_blank, show i - 1 + 1 = i by omega]
      rfl
    rw [if_neg h3, if_neg h3]
    by_cases h4 : o = 4
    · rw [if_pos h4, if_pos h4]
      obtain ⟨e1, _, _⟩ := k2 (.inr h4)
      match ks, e1, ih, hm, ors with
      | k :: t, _, ih, hm, ors =>
      have ho := ors t (fun k' hk' => by simp [hk'])
      rw [shwL_cons, tokL_cons]
      show txtL (shwK lf 4 k ++ shwL lf [32, 111, 114, 32] 4 t) i = tokK lf 4 k ++ tokL lf true 4 t
      rw [txt_app (shwL_side _ 4 ⟨_, rfl⟩ t), ho, (ih k (by simp) (hm k (by simp))).2 4 i]
    rw [if_neg h4, if_neg h4]
    have hk0 := k3 h3 h4 h5
    rw [hk0] at h1
    obtain ⟨a, b⟩ := hl o n s h3 h4 h5 h1
    exact txt_one a b i
  refine ⟨hq, fun j i => ?_⟩
  unfold shwK tokK
  by_cases hc : (Qy.mk o n s ks).op = 4 ∨ (Qy.mk o n s ks).op = 3 ∧ j ≠ 4
  · rw [if_pos hc, if_pos hc, txt_paren, hq]
  · rw [if_neg hc, if_neg hc]
    exact hq i
end
end Go.Proofs.YtjjlmkleidbmhaaGreatDoor
end
section
namespace Go.Proofs.YtjjlmkleidbmhaaGreatDoor
open Go.RowKit Go.Nst
set_option maxRecDepth 100000
set_option linter.unusedVariables false
set_option linter.unusedSimpArgs false

def mpR (g : Pt → Pt) : Rs → Rs
  | .ok q r => .ok q (r.map g)
  | .bad r => .bad (r.map g)
section
variable {tm : List UInt8 → Option Qy} {g : Pt → Pt}
theorem nxt_mp (hg : ∀ p, (g p).s = p.s) (l : List Pt) : nxt (l.map g) = nxt l := by
  cases l with
  | nil => rfl
  | cons a r => exact hg a
theorem stopA_mp (hg : ∀ p, (g p).s = p.s) (l : List Pt) : stopA (l.map g) = stopA l := by
  unfold stopA
  rw [nxt_mp hg]
theorem allG_mp (hg : ∀ p, (g p).s = p.s) {one : List Pt → Rs} (h : ∀ l, one (l.map g) = mpR g (one l)) : ∀ f acc l, allG one f acc (l.map g) = mpR g (allG one f acc l)
  | 0, acc, l => by
    simp only [allG, stopA_mp hg]
    split <;> rfl
  | f + 1, acc, l => by
    simp only [allG, stopA_mp hg, nxt_mp hg]
    split
    · rfl
    · rw [show (if (nxt l == tAnd) = true then (l.map g).tail else l.map g) = (if (nxt l == tAnd) = true then l.tail else l).map g by split <;> simp]
      rw [h]
      cases one (if (nxt l == tAnd) = true then l.tail else l) with
      | bad r => rfl
      | ok q r => exact allG_mp hg h f _ r
theorem allF_mp (hg : ∀ p, (g p).s = p.s) {one : List Pt → Rs} (h : ∀ l, one (l.map g) = mpR g (one l)) (l : List Pt) : allF one (l.map g) = mpR g (allF one l) := by
  unfold allF
  rw [h]
  cases one l with
  | bad r => rfl
  | ok q r =>
    simp only [mpR, List.length_map]
    exact allG_mp hg h _ _ r
theorem qryG_mp (hg : ∀ p, (g p).s = p.s) {all : List Pt → Rs} (h : ∀ l, all (l.map g) = mpR g (all l)) : ∀ f acc l, qryG all f acc (l.map g) = mpR g (qryG all f acc l)
  | 0, acc, l => by
    simp only [qryG, nxt_mp hg]
    split <;> rfl
  | f + 1, acc, l => by
    simp only [qryG, nxt_mp hg]
    split
    · rw [show (l.map g).tail = l.tail.map g by simp, h]
      cases all l.tail with
      | bad r => rfl
      | ok q r => exact qryG_mp hg h f _ r
    · rfl
theorem qryF_mp (hg : ∀ p, (g p).s = p.s) {one : List Pt → Rs} (h : ∀ l, one (l.map g) = mpR g (one l)) (l : List Pt) : qryF one (l.map g) = mpR g (qryF one l) := by
  unfold qryF
  rw [allF_mp hg h]
  cases allF one l with
  | bad r => rfl
  | ok q r =>
    simp only [mpR, List.length_map]
    exact qryG_mp hg (allF_mp hg h) _ _ r
theorem oneF_mp (hg : ∀ p, (g p).s = p.s) : ∀ f l, oneF tm f (l.map g) = mpR g (oneF tm f l)
  | 0, l => rfl
  | f + 1, l => by
    have ih := oneF_mp hg f
    simp only [oneF, oneS, nxt_mp hg]
    split
    · rfl
    · rw [show (l.map g).tail = l.tail.map g by simp]
      split
      · rw [ih]
        cases oneF tm f l.tail <;> rfl
      · split
        · rw [qryF_mp hg ih]
          cases qryF (oneF tm f) l.tail with
          | bad r => rfl
          | ok q r =>
            simp only [mpR, nxt_mp hg]
            split
            · simp [mpR]
            · rfl
        · cases tm (nxt l) with
          | none => rfl
          | some q => simp [mpR]
end
/-- a part further on -/
def shP (d : Int) (p : Pt) : Pt := ⟨p.s, p.p + d⟩
theorem pts_shift (d : Int) : ∀ (n : Nat) (l : List UInt8) (i : Int), l.length ≤ n → ptsL l (i + d) = (ptsL l i).map (shP d)
  | 0, l, i, h => by
    obtain rfl : l = [] := List.eq_nil_of_length_eq_zero (by omega)
    rfl
  | n + 1, l, i, h => by
    cases l with
    | nil => rfl
    | cons c r =>
      simp only [List.length_cons] at h
      by_cases h32 : (c == 32) = true
      · obtain rfl : c = 32 := by simpa using h32
        rw [ptsL_blank, ptsL_blank, ← pts_shift d n r _ (by omega), show i + d + 1 = i + 1 + d by omega]
      · have h32 : (c == 32) = false := by simpa using h32
        by_cases hs : sideB c = true
        · rw [ptsL_side _ _ hs h32, ptsL_side _ _ hs h32, List.map_cons, ← pts_shift d n r _ (by omega), show i + d + 1 = i + 1 + d by omega]
          rfl
        · have hs : sideB c = false := by simpa using hs
          have hd := dw_le (p := runB) r
          rw [ptsL_run _ _ hs, ptsL_run _ _ hs, List.map_cons, ← pts_shift d n (r.dropWhile runB) _ (by omega), show i + d + 1 + ((r.takeWhile runB).length : Int) = i + 1 + ((r.takeWhile runB).length : Int) + d by omega]
          rfl
theorem pts_from (l : List UInt8) (d : Int) : ptsL l d = (ptsL l 0).map (shP d) := by
  have := pts_shift d l.length l 0 (Nat.le_refl _)
  rwa [Int.zero_add] at this

/-- the query of a text, all of it; none: it can not go on -/
def allD (tm : List UInt8 → Option Qy) (s : List UInt8) : Option Qy := match qryF (oneF tm (ptsL s 0).length) (ptsL s 0) with
  | .ok q [] => some q
  | _ => none
/-- the place where it can not go on -/
def posD (e : Int) : List Pt → Int
  | [] => e
  | p :: _ => p.p
/-- the query of a text, a place, what is wrong -/
def prsD (tm : List UInt8 → Option Qy) (s : List UInt8) : Qy × Int × Int :=
  if 512 < s.length then (Qy.zero, 0, 3) else match qryF (oneF tm (ptsL s 0).length) (ptsL s 0) with
  | .bad r => (Qy.zero, posD s.length r, 250)
  | .ok q [] => if okQ q then (q, s.length, 0) else (Qy.zero, 0, 3)
  | .ok _ (p :: _) => (Qy.zero, p.p, 250)
theorem allD_some {tm : List UInt8 → Option Qy} {s : List UInt8} {q : Qy} (h : allD tm s = some q) : qryF (oneF tm (ptsL s 0).length) (ptsL s 0) = .ok q [] := by
  unfold allD at h
  split at h
  · rename_i q' e
    injection h with h
    subst h
    exact e
  · cases h
theorem prsD_of {tm : List UInt8 → Option Qy} {s : List UInt8} {q : Qy} (h : allD tm s = some q) (hs : s.length ≤ 512) : prsD tm s = if okQ q then (q, (s.length : Int), 0) else (Qy.zero, 0, 3) := by
  unfold prsD
  rw [if_neg (by omega), allD_some h]
theorem prsD_ok {tm : List UInt8 → Option Qy} {s : List UInt8} (h : (prsD tm s).2.2 = 0) : allD tm s = some (prsD tm s).1 ∧ okQ (prsD tm s).1 = true ∧ s.length ≤ 512 ∧ (prsD tm s).2.1 = s.length := by
  unfold prsD at h ⊢
  by_cases h0 : 512 < s.length
  · rw [if_pos h0] at h; exact absurd h (by decide)
  · rw [if_neg h0] at h ⊢
    unfold allD
    generalize qryF (oneF tm (ptsL s 0).length) (ptsL s 0) = x at *
    match x, h with
    | .bad r, h => exact absurd h (by simp)
    | .ok q (p :: r), h => exact absurd h (by simp)
    | .ok q [], h =>
      simp only at h ⊢
      by_cases ho : okQ q = true
      · rw [if_pos ho]
        exact ⟨rfl, ho, by omega, rfl⟩
      · rw [if_neg ho] at h
        exact absurd h (by simp)
/-- where it is none, the query is empty -/
theorem prsD_no {tm : List UInt8 → Option Qy} {s : List UInt8} (h : (prsD tm s).2.2 ≠ 0) : (prsD tm s).1 = Qy.zero := by
  unfold prsD at h ⊢
  by_cases h0 : 512 < s.length
  · rw [if_pos h0]
  · rw [if_neg h0] at h ⊢
    generalize qryF (oneF tm (ptsL s 0).length) (ptsL s 0) = x at *
    match x, h with
    | .bad r, h => rfl
    | .ok q (p :: r), h => rfl
    | .ok q [], h =>
      simp only at h ⊢
      by_cases ho : okQ q = true
      · rw [if_pos ho] at h
        exact absurd rfl h
      · rw [if_neg ho]
section
variable {lf : Int → Int → List UInt8 → List UInt8} {tm : List UInt8 → Option Qy}
/-- WHAT IS SHOWN IS PARSED AS IT WAS -/
theorem back_plain (hl : Lfs lf tm) (hr : Lrs lf) {q : Qy} (h : plaQ q = true) : allD tm (shwQ lf q) = some q := by
  have h1 := (shown_parts hr q h).1 0
  have h2 := (shown_parsed hl q h).2.2 (ptsL (shwQ lf q) 0) [] (ptsL (shwQ lf q) 0).length h1 (by simp) (by rfl)
  rw [List.append_nil] at h2
  unfold allD
  rw [h2]
/-- between ( and ) -/
theorem in_paren {a : List UInt8} {x : Qy} (h : allD tm a = some x) (d i j : Int) (t : List Pt) (f : Nat) (hf : (ptsL a d ++ (⟨tCls, j⟩ : Pt) :: t).length ≤ f) : oneF tm (f + 1) (⟨tOpn, i⟩ :: (ptsL a d ++ ⟨tCls, j⟩ :: t)) = .ok x t := by
  have h1 := allD_some h
  have h2 := qryF_mp (g := shP d) (fun _ => rfl) (oneF_mp (tm := tm) (g := shP d) (fun _ => rfl) (ptsL a 0).length) (ptsL a 0)
  rw [h1, ← pts_from] at h2
  have hlen : (ptsL a d).length = (ptsL a 0).length := by rw [pts_from, List.length_map]
  have hm := oneF_more tm (⟨tCls, j⟩ :: t) (ptsL a 0).length (ptsL a 0).length f (Nat.le_refl _) (by
    rw [List.length_append, hlen] at hf
    exact hf)
  have h3 := qryF_more (oneF_eats tm _) hm (ptsL a d) x [] (by rw [hlen]; exact Nat.le_refl _) h2 (.inr (by rfl))
  exact one_paren rfl rfl h3
theorem pts_paren (a : List UInt8) (b : List UInt8) (i : Int) : ptsL (40 :: (a ++ 41 :: b)) i = ⟨tOpn, i⟩ :: (ptsL a (i + 1) ++ ⟨tCls, i + 1 + a.length⟩ :: ptsL b (i + 1 + a.length + 1)) := by
  rw [ptsL_side _ _ (by decide) (by decide), pts_cut (by decide) b a.length a _ (Nat.le_refl _), ptsL_side _ _ (by decide) (by decide)]
theorem pts_sep {w : List UInt8} (hw0 : w ≠ []) (hw : w.all runB = true) (b : List UInt8) (i : Int) : ∃ k2 i2 d2 j2, ptsL (32 :: (w ++ 32 :: (40 :: (b ++ [41])))) i = ⟨w, k2⟩ :: ⟨tOpn, i2⟩ :: (ptsL b d2 ++ ⟨tCls, j2⟩ :: []) := by
  have e1 := pts_cut (c := 32) (by decide) (40 :: (b ++ [41])) w.length w (i + 1) (Nat.le_refl _)
  rw [pts_one hw0 hw, ptsL_blank, pts_paren] at e1
  exact ⟨_, _, _, _, (ptsL_blank _ _).trans e1⟩
/-- (a)(b) -/
theorem join_all {a b : List UInt8} {x y : Qy} (ha : allD tm a = some x) (hb : allD tm b = some y) : allD tm (40 :: (a ++ 41 :: (40 :: (b ++ [41])))) = some ⟨3, 0, [], [x, y]⟩ := by
  have e : ptsL (40 :: (a ++ 41 :: (40 :: (b ++ [41])))) 0 = ⟨tOpn, 0⟩ :: (ptsL a (0 + 1) ++ ⟨tCls, 0 + 1 + a.length⟩ :: (⟨tOpn, 0 + 1 + a.length + 1⟩ :: (ptsL b (0 + 1 + a.length + 1 + 1) ++ ⟨tCls, 0 + 1 + a.length + 1 + 1 + b.length⟩ :: []))) := by
    rw [pts_paren, pts_paren]
    rfl
  unfold allD
  rw [e]
  generalize 0 + 1 + (a.length : Int) + 1 + 1 + (b.length : Int) = j2
  generalize 0 + 1 + (a.length : Int) + 1 + 1 = d2
  generalize 0 + 1 + (a.length : Int) + 1 = i2
  generalize 0 + 1 + (a.length : Int) = j1
  generalize (0 : Int) + 1 = d1
  generalize hn : (⟨tOpn, 0⟩ :: (ptsL a d1 ++ ⟨tCls, j1⟩ :: (⟨tOpn, i2⟩ :: (ptsL b d2 ++ (⟨tCls, j2⟩ : Pt) :: []))) : List Pt).length = n
  cases n with
  | zero => simp at hn
  | succ n =>
  simp only [List.length_cons, List.length_append, List.length_nil] at hn
  have h1 := in_paren ha d1 0 j1 (⟨tOpn, i2⟩ :: (ptsL b d2 ++ (⟨tCls, j2⟩ : Pt) :: [])) n (by simp only [List.length_cons, List.length_append, List.length_nil]; omega)
  have h2 := in_paren hb d2 i2 j2 [] n (by simp only [List.length_cons, List.length_append, List.length_nil]; omega)
  unfold qryF allF
  rw [h1]
  simp only [List.length_cons]
  rw [allG]
  rw [if_neg (by simp only [stopA, nxt]; decide)]
  rw [if_neg (by simp only [nxt]; decide), h2]
  simp only
  rw [allG_stop (by rfl)]
  rfl
/-- (a) and (b) -/
theorem join_and {a b : List UInt8} {x y : Qy} (ha : allD tm a = some x) (hb : allD tm b = some y) : allD tm (40 :: (a ++ 41 :: ([32, 97, 110, 100, 32] ++ 40 :: (b ++ [41])))) = some ⟨3, 0, [], [x, y]⟩ := by
  have e : ∃ d1 j1 k2 i2 d2 j2, ptsL (40 :: (a ++ 41 :: ([32, 97, 110, 100, 32] ++ 40 :: (b ++ [41])))) 0 = ⟨tOpn, 0⟩ :: (ptsL a d1 ++ ⟨tCls, j1⟩ :: (⟨tAnd, k2⟩ :: (⟨tOpn, i2⟩ :: (ptsL b d2 ++ ⟨tCls, j2⟩ :: [])))) := by
    obtain ⟨k2, i2, d2, j2, h⟩ := pts_sep (w := [97, 110, 100]) (by simp) (by decide) b (0 + 1 + a.length + 1)
    refine ⟨0 + 1, 0 + 1 + a.length, k2, i2, d2, j2, ?_⟩
    rw [pts_paren]
    rw [show [32, 97, 110, 100, 32] ++ 40 :: (b ++ [41]) = 32 :: ([97, 110, 100] ++ 32 :: (40 :: (b ++ [41]))) by simp, h]
  obtain ⟨d1, j1, k2, i2, d2, j2, e⟩ := e
  unfold allD
  rw [e]
  generalize hn : (⟨tOpn, 0⟩ :: (ptsL a d1 ++ ⟨tCls, j1⟩ :: (⟨tAnd, k2⟩ :: (⟨tOpn, i2⟩ :: (ptsL b d2 ++ (⟨tCls, j2⟩ : Pt) :: [])))) : List Pt).length = n
  cases n with
  | zero => simp at hn
  | succ n =>
  simp only [List.length_cons, List.length_append, List.length_nil] at hn
  have h1 := in_paren ha d1 0 j1 (⟨tAnd, k2⟩ :: (⟨tOpn, i2⟩ :: (ptsL b d2 ++ (⟨tCls, j2⟩ : Pt) :: []))) n (by simp only [List.length_cons, List.length_append, List.length_nil]; omega)
  have h2 := in_paren hb d2 i2 j2 [] n (by simp only [List.length_cons, List.length_append, List.length_nil]; omega)
  unfold qryF allF
  rw [h1]
  simp only [List.length_cons]
  rw [allG]
  rw [if_neg (by simp only [stopA, nxt]; decide)]
  rw [if_pos (by simp only [nxt]; decide)]
  simp only [List.tail_cons]
  rw [h2]
  simp only
  rw [allG_stop (by rfl)]
  rfl
/-- (a) or (b) -/
theorem join_or {a b : List UInt8} {x y : Qy} (ha : allD tm a = some x) (hb : allD tm b = some y) : allD tm (40 :: (a ++ 41 :: ([32, 111, 114, 32] ++ 40 :: (b ++ [41])))) = some ⟨4, 0, [], [x, y]⟩ := by
  have e : ∃ d1 j1 k2 i2 d2 j2, ptsL (40 :: (a ++ 41 :: ([32, 111, 114, 32] ++ 40 :: (b ++ [41])))) 0 = ⟨tOpn, 0⟩ :: (ptsL a d1 ++ ⟨tCls, j1⟩ :: (⟨tOr, k2⟩ :: (⟨tOpn, i2⟩ :: (ptsL b d2 ++ ⟨tCls, j2⟩ :: [])))) := by
    obtain ⟨k2, i2, d2, j2, h⟩ := pts_sep (w := [111, 114]) (by simp) (by decide) b (0 + 1 + a.length + 1)
    refine ⟨0 + 1, 0 + 1 + a.length, k2, i2, d2, j2, ?_⟩
    rw [pts_paren]
    rw [show [32, 111, 114, 32] ++ 40 :: (b ++ [41]) = 32 :: ([111, 114] ++ 32 :: (40 :: (b ++ [41]))) by simp, h]
  obtain ⟨d1, j1, k2, i2, d2, j2, e⟩ := e
  unfold allD
  rw [e]
  generalize hn : (⟨tOpn, 0⟩ :: (ptsL a d1 ++ ⟨tCls, j1⟩ :: (⟨tOr, k2⟩ :: (⟨tOpn, i2⟩ :: (ptsL b d2 ++ (⟨tCls, j2⟩ : Pt) :: [])))) : List Pt).length = n
  cases n with
  | zero => simp at hn
  | succ n =>
  simp only [List.length_cons, List.length_append, List.length_nil] at hn
  have h1 := in_paren ha d1 0 j1 (⟨tOr, k2⟩ :: (⟨tOpn, i2⟩ :: (ptsL b d2 ++ (⟨tCls, j2⟩ : Pt) :: []))) n (by simp only [List.length_cons, List.length_append, List.length_nil]; omega)
  have h2 := in_paren hb d2 i2 j2 [] n (by simp only [List.length_cons, List.length_append, List.length_nil]; omega)
  unfold qryF
  rw [one_all h1 (by rfl)]
  simp only [List.length_cons]
  rw [qryG]
  rw [if_pos (by simp only [nxt]; decide)]
  simp only [List.tail_cons]
  rw [one_all h2 (by rfl)]
  simp only
  rw [qryG_stop (by rfl)]
  rfl
/-- not (a) -/
theorem join_not {a : List UInt8} {x : Qy} (ha : allD tm a = some x) : allD tm ([110, 111, 116, 32] ++ 40 :: (a ++ [41])) = some ⟨5, 0, [], [x]⟩ := by
  have e : ∃ k1 i1 d1 j1, ptsL ([110, 111, 116, 32] ++ 40 :: (a ++ [41])) 0 = ⟨tNot, k1⟩ :: (⟨tOpn, i1⟩ :: (ptsL a d1 ++ ⟨tCls, j1⟩ :: [])) := by
    have e := pts_cut (c := 32) (by decide) (40 :: (a ++ [41])) 3 [110, 111, 116] 0 (by simp)
    rw [pts_one (l := [110, 111, 116]) (by simp) (by decide), ptsL_blank, pts_paren] at e
    exact ⟨_, _, _, _, e⟩
  obtain ⟨k1, i1, d1, j1, e⟩ := e
  unfold allD
  rw [e]
  generalize hn : (⟨tNot, k1⟩ :: (⟨tOpn, i1⟩ :: (ptsL a d1 ++ (⟨tCls, j1⟩ : Pt) :: [])) : List Pt).length = n
  match n, hn with
  | 0, hn => simp at hn
  | 1, hn => simp at hn
  | n + 2, hn =>
  simp only [List.length_cons, List.length_append, List.length_nil] at hn
  have h1 := in_paren ha d1 i1 j1 [] n (by simp only [List.length_cons, List.length_append, List.length_nil]; omega)
  rw [all_qry (one_all (one_not rfl h1) (by rfl)) (by rfl)]
end
end Go.Proofs.YtjjlmkleidbmhaaGreatDoor
end
section
namespace Go.Proofs.YtjjlmkleidbmhaaGreatDoor
open Go.RowKit Go.Nst
set_option maxRecDepth 100000
set_option linter.unusedVariables false
set_option linter.unusedSimpArgs false

def valD (l : List UInt8) : Nat := l.foldl (fun n c => 10 * n + (c.toNat - 48)) 0
theorem val_dec (u : Nat) : valD (Lib.decDigits u) = u := by
  induction u using Nat.strongRecOn with
  | _ u ih =>
    rw [Lib.decDigits]
    split
    · simp [valD]
      omega
    · have h := ih (u / 10) (by omega)
      unfold valD at h ⊢
      rw [List.foldl_append, h]
      simp
      omega
end Go.Proofs.YtjjlmkleidbmhaaGreatDoor
end
section
namespace Go.Proofs.YtjjlmkleidbmhaaGreatDoor
open Go.Nst
set_option maxRecDepth 100000
set_option linter.unusedVariables false
set_option linter.unusedSimpArgs false

theorem ok_iff (x : Dt) : x.ok = true ↔ 1 ≤ x.d ∧ x.d ≤ daysM x.y x.m ∧ 0 ≤ x.h ∧ x.h ≤ 23 ∧ 0 ≤ x.mi ∧ x.mi ≤ 59 ∧ 0 ≤ x.s ∧ x.s ≤ 59 := by
  unfold Dt.ok
  simp [and_assoc]
theorem ok_ym {x : Dt} (h : x.ok = true) : 1 ≤ x.y ∧ x.y ≤ 9999 ∧ 1 ≤ x.m ∧ x.m ≤ 12 := by
  rw [ok_iff] at h
  have h1 := h.1
  have h2 := h.2.1
  unfold daysM at h2
  split at h2
  · omega
  · omega
/-- the year's length is what the next year has ahead of it more -/
theorem ahead_next (y : Int) : aheadY (y + 1) = aheadY y + 365 + (if leapB y then 1 else 0) := by
  have := leap_num y
  unfold aheadY
  rw [this]
  have e : y + 1 - 1 = y := by omega
  rw [e]
  omega
theorem cum13 (y : Int) (h0 : 1 ≤ y) (h1 : y ≤ 9999) : cumN y 12 + daysM y 12 = 365 + (if leapB y then 1 else 0) := by
  rw [cum_T y 12 h0 h1 (by omega) (by omega), daysM_in h0 h1 (by omega) (by omega)]
  rw [if_neg (by decide)]
  simp only [cumT]
  omega
theorem days_pos {y m : Int} (h0 : 1 ≤ y) (h1 : y ≤ 9999) (h2 : 1 ≤ m) (h3 : m ≤ 12) : 28 ≤ daysM y m ∧ daysM y m ≤ 31 := by
  rw [daysM_in h0 h1 h2 h3]
  split
  · split <;> omega
  · omega
theorem cum_succ (y : Int) (k : Nat) (hk : 1 ≤ k) : cumN y (k + 1) = cumN y k + daysM y k := by
  simp only [cumN]; rw [if_neg (by omega)]
theorem cum_mono (y : Int) (h0 : 1 ≤ y) (h1 : y ≤ 9999) (k : Nat) (hk : 1 ≤ k) : ∀ j : Nat, k + j ≤ 12 → cumN y k + 28 * j ≤ cumN y (k + j)
  | 0, _ => by simp
  | j + 1, h => by
    have h2 := cum_mono y h0 h1 k hk j (by omega)
    have h3 := (days_pos h0 h1 (m := ((k + j : Nat) : Int)) (by omega) (by omega)).1
    rw [show k + (j + 1) = k + j + 1 from rfl, cum_succ y (k + j) (by omega)]
    omega
theorem cum_end {y : Int} (h0 : 1 ≤ y) (h1 : y ≤ 9999) {k : Nat} (hk : 1 ≤ k) (hk2 : k ≤ 12) : cumN y k + daysM y k ≤ 365 + (if leapB y then 1 else 0) := by
  by_cases h : k = 12
  · rw [h]; have := cum13 y h0 h1; exact Int.le_of_eq this
  · have h2 := cum_mono y h0 h1 (k + 1) (by omega) (11 - k) (by omega)
    rw [cum_succ y k hk] at h2
    have h3 := cum13 y h0 h1
    have h4 := (days_pos h0 h1 (m := 12) (by omega) (by omega)).1
    rw [show k + 1 + (11 - k) = 12 by omega] at h2
    omega
theorem cum_one (y : Int) : cumN y 1 = 0 := by simp [cumN]
theorem cum_nonneg {y : Int} (h0 : 1 ≤ y) (h1 : y ≤ 9999) {k : Nat} (hk : 1 ≤ k) (hk2 : k ≤ 12) : 0 ≤ cumN y k := by
  have h2 := cum_mono y h0 h1 1 (by omega) (k - 1) (by omega)
  rw [cum_one, show 1 + (k - 1) = k by omega] at h2
  omega
theorem ahead_mono {y : Int} : ∀ j : Nat, aheadY y + 365 * j ≤ aheadY (y + j)
  | 0 => by simp
  | j + 1 => by
    have h := ahead_mono (y := y) j
    have h2 := ahead_next (y + j)
    have h3 : (0 : Int) ≤ (if leapB (y + j) then 1 else 0) := by split <;> omega
    rw [show y + ((j + 1 : Nat) : Int) = y + (j : Int) + 1 by omega, h2]
    omega
/-- the day of a date, parted -/
theorem day_in {x : Dt} (h : x.ok = true) : ∃ k : Nat, x.m = k ∧ 1 ≤ k ∧ k ≤ 12 ∧ daysC x.y x.m x.d = aheadY x.y + (x.d - 1 + cumN x.y k) - 719162 ∧ 0 ≤ x.d - 1 + cumN x.y k ∧ x.d - 1 + cumN x.y k < 365 + (if leapB x.y then 1 else 0) ∧ x.d - 1 < daysM x.y k := by
  obtain ⟨y0, y1, m0, m1⟩ := ok_ym h
  obtain ⟨k, hk⟩ := Int.eq_ofNat_of_zero_le (show 0 ≤ x.m by omega)
  have h2 := days_same x.y k x.d y0 y1 (by omega) (by omega)
  rw [ok_iff] at h
  have h3 := cum_end y0 y1 (k := k) (by omega) (by omega)
  have h4 := cum_nonneg y0 y1 (k := k) (by omega) (by omega)
  have h5 := h.2.1
  rw [hk] at h5
  refine ⟨k, hk, by omega, by omega, ?_, by omega, by omega, by omega⟩
  rw [hk, h2]
  unfold dayR
  omega
theorem mom_bounds {x : Dt} (h : x.ok = true) : mayM x.mom = true := by
  obtain ⟨k, hk, k1, k2, e, p0, p1, _⟩ := day_in h
  obtain ⟨y0, y1, m0, m1⟩ := ok_ym h
  rw [ok_iff] at h
  obtain ⟨j, hj⟩ := Int.eq_ofNat_of_zero_le (show 0 ≤ x.y - 1 by omega)
  obtain ⟨j2, hj2⟩ := Int.eq_ofNat_of_zero_le (show 0 ≤ 10000 - (x.y + 1) by omega)
  have a1 := ahead_mono (y := 1) j
  rw [show (1 : Int) + (j : Int) = x.y by omega] at a1
  have a2 := ahead_mono (y := x.y + 1) j2
  rw [show x.y + 1 + (j2 : Int) = 10000 by omega] at a2
  have a3 := ahead_next x.y
  have a4 : aheadY 1 = 0 := by decide
  have a5 : aheadY 10000 = 3652059 := by decide
  unfold Dt.mom
  rw [e, mayM_iff]
  omega
theorem day_inj {x z : Dt} (hx : x.ok = true) (hz : z.ok = true) (h : daysC x.y x.m x.d = daysC z.y z.m z.d) : x.y = z.y ∧ x.m = z.m ∧ x.d = z.d := by
  obtain ⟨k, hk, k1, k2, e, p0, p1, p2⟩ := day_in hx
  obtain ⟨j, hj, j1, j2, f, q0, q1, q2⟩ := day_in hz
  obtain ⟨x0, x1, _, _⟩ := ok_ym hx
  obtain ⟨z0, z1, _, _⟩ := ok_ym hz
  rw [ok_iff] at hx hz
  rw [e, f] at h
  have hy : x.y = z.y := by
    rcases Int.lt_trichotomy x.y z.y with hlt | heq | hgt
    · obtain ⟨i, hi⟩ := Int.eq_ofNat_of_zero_le (show 0 ≤ z.y - (x.y + 1) by omega)
      have a1 := ahead_mono (y := x.y + 1) i
      rw [show x.y + 1 + (i : Int) = z.y by omega] at a1
      have a3 := ahead_next x.y
      omega
    · exact heq
    · obtain ⟨i, hi⟩ := Int.eq_ofNat_of_zero_le (show 0 ≤ x.y - (z.y + 1) by omega)
      have a1 := ahead_mono (y := z.y + 1) i
      rw [show z.y + 1 + (i : Int) = x.y by omega] at a1
      have a3 := ahead_next z.y
      omega
  rw [hy] at h p2
  have h2 : x.d - 1 + cumN z.y k = z.d - 1 + cumN z.y j := by omega
  have hm : k = j := by
    rcases Nat.lt_trichotomy k j with hlt | heq | hgt
    · have c1 := cum_mono z.y z0 z1 (k + 1) (by omega) (j - (k + 1)) (by omega)
      rw [cum_succ z.y k k1, show k + 1 + (j - (k + 1)) = j by omega] at c1
      omega
    · exact heq
    · have c1 := cum_mono z.y z0 z1 (j + 1) (by omega) (k - (j + 1)) (by omega)
      rw [cum_succ z.y j j1, show j + 1 + (k - (j + 1)) = k by omega] at c1
      omega
  subst hm
  exact ⟨hy, by omega, by omega⟩
theorem mom_inj {x z : Dt} (hx : x.ok = true) (hz : z.ok = true) (h : x.mom = z.mom) : x = z := by
  have hx' := (ok_iff x).1 hx
  have hz' := (ok_iff z).1 hz
  have hd : daysC x.y x.m x.d = daysC z.y z.m z.d := by unfold Dt.mom at h; omega
  obtain ⟨a, b, c⟩ := day_inj hx hz hd
  unfold Dt.mom at h
  rw [hd] at h
  obtain ⟨xy, xm, xd, xh, xmi, xs⟩ := x
  obtain ⟨zy, zm, zd, zh, zmi, zs⟩ := z
  simp only at *
  have e1 : xh = zh := by omega
  have e2 : xmi = zmi := by omega
  have e3 : xs = zs := by omega
  rw [a, b, c, e1, e2, e3]
theorem leap_400 (y E : Int) : leapB (y + 400 * E) = leapB y := by
  unfold leapB
  have e1 : (y + 400 * E) % 4 = y % 4 := by omega
  have e2 : (y + 400 * E) % 100 = y % 100 := by omega
  have e3 : (y + 400 * E) % 400 = y % 400 := by omega
  rw [e1, e2, e3]
/-- the date of a moment may be, and has this moment -/
theorem ofD_ok {n : Int} (h : mayM n = true) : (ofD n).ok = true ∧ (ofD n).mom = n := by
  obtain ⟨hw, hN, hO, hY, hI, hM⟩ := of_bounds h
  obtain ⟨_, _, t3, t4⟩ := of_tab (ofO n) hO.1 hO.2 (ofY n) rfl
  have eO : ofO n = ofN n - 146097 * (ofN n / 146097) := by unfold ofO; omega
  have eI : ofI n = ofO n - (365 * ofY n + ofY n / 4 - ofY n / 100) := rfl
  have eM : ofM n = (5 * ofI n + 2) / 153 := rfl
  have eN : ofN n = (n + 62135596800) / 86400 + 306 := rfl
  have eL := leap_num (ofY n + 1)
  rw [show ofY n + 1 - 1 = ofY n by omega] at eL
  have hE : 0 ≤ ofN n / 146097 ∧ ofN n / 146097 ≤ 24 := by omega
  unfold ofD
  generalize ofN n = N at *
  generalize ofO n = O at *
  generalize ofY n = Y at *
  generalize ofI n = I at *
  generalize ofM n = M at *
  have hI2 : I < 365 + (if leapB (Y + 1) then 1 else 0) := by rw [eL]; omega
  have hl2 : (if leapB (Y + 1) then (1 : Int) else 0) ≤ 1 := by split <;> omega
  clear t3 t4 eL
  generalize hE' : N / 146097 = E at *
  by_cases h12 : 12 < M + 3
  · rw [if_pos h12]
    have hy1 : 1 ≤ Y + 400 * E + 1 ∧ Y + 400 * E + 1 ≤ 9999 := by
      refine ⟨by omega, ?_⟩
      by_cases hh : E = 24
      · subst hh
        omega
      · omega
    have hm : M + 3 - 12 = 1 ∨ M + 3 - 12 = 2 := by omega
    have hdm : I - (153 * M + 2) / 5 + 1 ≤ daysM (Y + 400 * E + 1) (M + 3 - 12) := by
      rw [daysM_in hy1.1 hy1.2 (by omega) (by omega)]
      rcases hm with hm | hm
      · rw [hm, if_neg (by omega)]; omega
      · rw [hm, if_pos rfl, show Y + 400 * E + 1 = Y + 1 + 400 * E by omega, leap_400]
        cases hl : leapB (Y + 1) with
        | true => simp only [hl, if_true] at *; omega
        | false => simp only [hl, Bool.false_eq_true, if_false] at *; omega
    refine ⟨?_, ?_⟩
    · rw [ok_iff]
      simp only
      refine ⟨by omega, hdm, by omega, by omega, by omega, by omega, by omega, by omega⟩
    · unfold Dt.mom daysC
      simp only
      rw [if_pos (by omega)]
      have g1 : (Y + 400 * E + 1 - 1) / 400 = E := by omega
      have g2 : (Y + 400 * E + 1 - 1) % 400 = Y := by omega
      rw [g1, g2, show M + 3 - 12 + 9 = M by omega]
      omega
  · rw [if_neg h12]
    have hy1 : 1 ≤ Y + 400 * E ∧ Y + 400 * E ≤ 9999 := by
      refine ⟨?_, by omega⟩
      by_cases hh : E = 0
      · subst hh
        omega
      · omega
    have hdm : I - (153 * M + 2) / 5 + 1 ≤ daysM (Y + 400 * E) (M + 3) := by
      rw [daysM_in hy1.1 hy1.2 (by omega) (by omega), if_neg (by omega)]
      rcases (by omega : M = 0 ∨ M = 1 ∨ M = 2 ∨ M = 3 ∨ M = 4 ∨ M = 5 ∨ M = 6 ∨ M = 7 ∨ M = 8 ∨ M = 9) with e | e | e | e | e | e | e | e | e | e <;> subst e <;> omega
    refine ⟨?_, ?_⟩
    · rw [ok_iff]
      simp only
      refine ⟨by omega, hdm, by omega, by omega, by omega, by omega, by omega, by omega⟩
    · unfold Dt.mom daysC
      simp only
      rw [if_neg (by omega)]
      have g1 : (Y + 400 * E) / 400 = E := by omega
      have g2 : (Y + 400 * E) % 400 = Y := by omega
      rw [g1, g2, show M + 3 - 3 = M by omega]
      omega
theorem ofD_mom {x : Dt} (h : x.ok = true) : ofD x.mom = x :=
  mom_inj (ofD_ok (mom_bounds h)).1 h (ofD_ok (mom_bounds h)).2
end Go.Proofs.YtjjlmkleidbmhaaGreatDoor
end
section
section
namespace Go.Proofs.YtjjlmkleidbmhaaGreatDoor
set_option maxRecDepth 100000
set_option linter.unusedVariables false
set_option linter.unusedSimpArgs false

def digB (c : UInt8) : Bool := decide (48 ≤ c.toNat) && decide (c.toNat ≤ 57)
def numL (l : List UInt8) : Int := l.foldl (fun n c => 10 * n + ((c.toNat : Int) - 48)) 0
theorem numL_bd : ∀ (l : List UInt8) (n : Int), 0 ≤ n → l.all digB = true → 0 ≤ l.foldl (fun n c => 10 * n + ((c.toNat : Int) - 48)) n ∧ l.foldl (fun n c => 10 * n + ((c.toNat : Int) - 48)) n < (n + 1) * 10 ^ l.length
  | [], n, h0, _ => by simp; omega
  | c :: t, n, h0, h => by
    simp only [List.all_cons, Bool.and_eq_true] at h
    have hd := h.1
    unfold digB at hd
    simp at hd
    have h1 := numL_bd t (10 * n + ((c.toNat : Int) - 48)) (by omega) h.2
    simp only [List.foldl_cons, List.length_cons]
    refine ⟨h1.1, Int.lt_of_lt_of_le h1.2 ?_⟩
    rw [Int.pow_succ, Int.mul_comm (10 ^ t.length) 10, ← Int.mul_assoc]
    exact Int.mul_le_mul_of_nonneg_right (by omega) (Int.pow_nonneg (by omega))
theorem numL_in {l : List UInt8} (h : l.all digB = true) : 0 ≤ numL l ∧ numL l < 10 ^ l.length := by
  have := numL_bd l 0 (by omega) h
  simpa [numL] using this
theorem numL_snoc (l : List UInt8) (c : UInt8) : numL (l ++ [c]) = 10 * numL l + ((c.toNat : Int) - 48) := by simp [numL]
end Go.Proofs.YtjjlmkleidbmhaaGreatDoor
end
section
namespace Go.Proofs.YtjjlmkleidbmhaaGreatDoor
open Go.RowKit Go.Nst
set_option maxRecDepth 100000
set_option linter.unusedVariables false
set_option linter.unusedSimpArgs false

theorem first_dig {l : List UInt8} {u : UInt8} {t : List UInt8} (e : l = u :: t) : (digB u = true ∧ firstL l = (u.toNat, 1)) ∨ (digB u = false ∧ ¬ (48 ≤ (firstL l).1 ∧ (firstL l).1 ≤ 57)) := by
  subst e
  have hu := u.toNat_lt
  by_cases h : u.toNat < 128
  · have hf : firstL (u :: t) = (u.toNat, 1) := by simp only [firstL]; rw [if_pos h]
    cases hd : digB u with
    | true => exact .inl ⟨rfl, hf⟩
    | false =>
      refine .inr ⟨rfl, ?_⟩
      rw [hf]
      unfold digB at hd
      simp at hd
      simp only
      omega
  · refine .inr ⟨by unfold digB; simp; omega, ?_⟩
    have : 128 ≤ (firstL (u :: t)).1 := by
      simp only [firstL]
      rw [if_neg h]
      (repeat' split) <;> (first | omega | (simp at *; omega))
    omega
theorem take_snocD {l : List UInt8} {pos : Nat} {u : UInt8} {t : List UInt8} (h : l.drop pos = u :: t) : l.take (pos + 1) = l.take pos ++ [u] := by
  have hg : l[pos]? = some u := by
    have := congrArg (·[0]?) h
    simpa [List.getElem?_drop] using this
  rw [List.take_add_one, hg]
  rfl
end Go.Proofs.YtjjlmkleidbmhaaGreatDoor
end
end
