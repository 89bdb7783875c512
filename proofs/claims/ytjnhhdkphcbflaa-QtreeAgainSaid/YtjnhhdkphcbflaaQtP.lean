/-
  The plain law of queries: depth, nodes, sameness, the normal form as the code makes it and as the document does.
-/
import Derived.Lib.Hide
namespace Go.Nst
set_option linter.unusedVariables false
set_option linter.unusedSimpArgs false

/-- a query: an operation, a number, a text, queries within it -/
inductive Qy where
  | mk (op n : Int) (s : List UInt8) (kids : List Qy)
namespace Qy
def op : Qy → Int | ⟨o, _, _, _⟩ => o
def n : Qy → Int | ⟨_, n, _, _⟩ => n
def s : Qy → List UInt8 | ⟨_, _, s, _⟩ => s
def kids : Qy → List Qy | ⟨_, _, _, l⟩ => l
def zero : Qy := ⟨0, 0, [], []⟩
end Qy
/-- induction over queries -/
theorem Qy.ind {p : Qy → Prop} (h : ∀ o n s l, (∀ k ∈ l, p k) → p ⟨o, n, s, l⟩) : ∀ q, p q := fun q =>
  Qy.rec (motive_1 := p) (motive_2 := fun l => ∀ k ∈ l, p k) (fun o n s l hl => h o n s l hl) (by simp) (fun x xs hx hxs k hk => by
    rcases List.mem_cons.1 hk with rfl | hk
    · exact hx
    · exact hxs k hk) q

/-! ### depth, nodes, sameness -/
mutual
/-- how deep, at a depth; up to 65 -/
def depQ : Qy → Nat → Nat
  | ⟨_, _, _, ks⟩, a => if 64 < a then a else depL ks a a
/-- of kids, so deep already -/
def depL : List Qy → Nat → Nat → Nat
  | [], _, m => m
  | k :: ks, a, m => depL ks a (max m (depQ k (a + 1)))
end
mutual
def nodQ : Qy → Nat
  | ⟨_, _, _, ks⟩ => nodL ks 1
def nodL : List Qy → Nat → Nat
  | [], m => m
  | k :: ks, m => nodL ks (m + nodQ k)
end
mutual
def samQ : Qy → Qy → Nat → Bool
  | ⟨o, n, s, ks⟩, q, a => !decide (64 < a) && o == q.op && n == q.n && s == q.s && decide (ks.length = q.kids.length) && samL ks q.kids (a + 1)
/-- kids, as far as both go -/
def samL : List Qy → List Qy → Nat → Bool
  | x :: xs, y :: ys, a => samQ x y a && samL xs ys a
  | [], _, _ => true
  | _ :: _, [], _ => true
end
theorem depL_snoc : ∀ (l : List Qy) (k : Qy) (a m : Nat), depL (l ++ [k]) a m = max (depL l a m) (depQ k (a + 1))
  | [], k, a, m => by simp [depL]
  | x :: xs, k, a, m => by simp only [List.cons_append, depL]; exact depL_snoc xs k a _
theorem nodL_snoc : ∀ (l : List Qy) (k : Qy) (m : Nat), nodL (l ++ [k]) m = nodL l m + nodQ k
  | [], k, m => by simp [nodL]
  | x :: xs, k, m => by simp only [List.cons_append, nodL]; exact nodL_snoc xs k _
theorem depL_ge : ∀ (l : List Qy) (a m : Nat), m ≤ depL l a m
  | [], a, m => by simp [depL]
  | x :: xs, a, m => by have := depL_ge xs a (max m (depQ x (a + 1))); simp only [depL]; omega
theorem depL_mem : ∀ (l : List Qy) (a m : Nat) (k : Qy), k ∈ l → depQ k (a + 1) ≤ depL l a m
  | x :: xs, a, m, k, hk => by
    simp only [depL]
    rcases List.mem_cons.1 hk with rfl | hk
    · have := depL_ge xs a (max m (depQ k (a + 1))); omega
    · exact depL_mem xs a _ k hk
theorem depL_le : ∀ (l : List Qy) (a m c : Nat), m ≤ c → (∀ k ∈ l, depQ k (a + 1) ≤ c) → depL l a m ≤ c
  | [], a, m, c, h, _ => by simpa [depL] using h
  | x :: xs, a, m, c, h, hl => by
    simp only [depL]
    refine depL_le xs a _ c ?_ (fun k hk => hl k (List.mem_cons_of_mem _ hk))
    have := hl x (by simp)
    omega
theorem depQ_ge (q : Qy) (a : Nat) : a ≤ depQ q a := by
  obtain ⟨o, n, s, ks⟩ := q
  simp only [depQ]
  split
  · omega
  · exact depL_ge _ _ _
theorem depQ_65 (q : Qy) : ∀ a, a ≤ 65 → depQ q a ≤ 65 := by
  refine Qy.ind (p := fun q => ∀ a, a ≤ 65 → depQ q a ≤ 65) ?_ q
  intro o n s l ih a ha
  simp only [depQ]
  split
  · exact ha
  · exact depL_le _ _ _ _ (by omega) (fun k hk => ih k hk (a + 1) (by omega))
theorem depQ_kid {o n : Int} {s : List UInt8} {l : List Qy} {a c : Nat} (h : depQ ⟨o, n, s, l⟩ a ≤ c) (hc : c ≤ 64) {k : Qy} (hk : k ∈ l) : depQ k (a + 1) ≤ c := by
  have h0 := depQ_ge ⟨o, n, s, l⟩ a
  have h1 : depQ ⟨o, n, s, l⟩ a = depL l a a := by simp only [depQ]; rw [if_neg (by omega)]
  have := depL_mem l a a k hk
  omega
theorem depQ_mk {o n : Int} {s : List UInt8} {l : List Qy} {a c : Nat} (ha : a ≤ c) (hk : ∀ k ∈ l, depQ k (a + 1) ≤ c) : depQ ⟨o, n, s, l⟩ a ≤ c := by
  simp only [depQ]
  split
  · exact ha
  · exact depL_le _ _ _ _ ha hk
theorem depL_65 (l : List Qy) (a m : Nat) (ha : a ≤ 64) (hm : m ≤ 65) : depL l a m ≤ 65 := depL_le _ _ _ _ hm (fun k _ => depQ_65 k _ (by omega))
theorem nodL_ge : ∀ (l : List Qy) (m : Nat), m ≤ nodL l m
  | [], m => by simp [nodL]
  | x :: xs, m => by have := nodL_ge xs (m + nodQ x); simp only [nodL]; omega
theorem nodL_mem : ∀ (l : List Qy) (m : Nat) (k : Qy), k ∈ l → m + nodQ k ≤ nodL l m
  | x :: xs, m, k, hk => by
    simp only [nodL]
    rcases List.mem_cons.1 hk with rfl | hk
    · exact nodL_ge xs _
    · have := nodL_mem xs (m + nodQ x) k hk; omega
theorem nodQ_pos (q : Qy) : 1 ≤ nodQ q := by obtain ⟨o, n, s, ks⟩ := q; simp only [nodQ]; exact nodL_ge _ _
theorem nodL_take : ∀ (l : List Qy) (m k : Nat), nodL (l.take k) m ≤ nodL l m
  | [], m, k => by simp
  | x :: xs, m, 0 => by simp only [List.take_zero, nodL]; have := nodL_ge xs (m + nodQ x); omega
  | x :: xs, m, k + 1 => by simp only [List.take_succ_cons, nodL]; exact nodL_take xs _ k
theorem nodL_add : ∀ (l : List Qy) (m : Nat), nodL l m = m + nodL l 0
  | [], m => by simp [nodL]
  | x :: xs, m => by simp only [nodL]; rw [nodL_add xs (m + nodQ x), nodL_add xs (0 + nodQ x)]; omega
theorem nodL_length : ∀ (l : List Qy) (m : Nat), m + l.length ≤ nodL l m
  | [], m => by simp [nodL]
  | x :: xs, m => by simp only [nodL]; have := nodL_length xs (m + nodQ x); have := nodQ_pos x; simp; omega

theorem samL_eq (l : List Qy) (c : Nat) (hall : ∀ k ∈ l, ∀ b, samQ k b c = true → k = b) : ∀ (l' : List Qy), l.length = l'.length → samL l l' c = true → l = l' := by
  induction l with
  | nil => intro l' h _; cases l' with
    | nil => rfl
    | cons y ys => cases h
  | cons x xs ih =>
    intro l' h hs
    cases l' with
    | nil => cases h
    | cons y ys =>
      simp only [samL, Bool.and_eq_true] at hs
      rw [hall x (by simp) y hs.1, ih (fun k hk => hall k (List.mem_cons_of_mem _ hk)) ys (by simpa using h) hs.2]
theorem samQ_eq (a : Qy) : ∀ (b : Qy) (c : Nat), samQ a b c = true → a = b := by
  refine Qy.ind (p := fun a => ∀ (b : Qy) (c : Nat), samQ a b c = true → a = b) ?_ a
  intro o n s l ih b c h
  obtain ⟨o', n', s', l'⟩ := b
  simp only [samQ, Qy.op, Qy.n, Qy.s, Qy.kids, Bool.and_eq_true, beq_iff_eq, decide_eq_true_eq] at h
  obtain ⟨⟨⟨⟨⟨_, rfl⟩, rfl⟩, rfl⟩, hl⟩, hs⟩ := h
  rw [samL_eq l (c + 1) (fun k hk b hb => ih k hk b _ hb) l' (of_decide_eq_true hl) hs]
theorem samQ_self (a : Qy) : ∀ c, depQ a c ≤ 64 → samQ a a c = true := by
  refine Qy.ind (p := fun a => ∀ c, depQ a c ≤ 64 → samQ a a c = true) ?_ a
  intro o n s l ih c h
  have h0 := depQ_ge ⟨o, n, s, l⟩ c
  have hk : ∀ k ∈ l, samQ k k (c + 1) = true := fun k hk => ih k hk (c + 1) (depQ_kid h (Nat.le_refl _) hk)
  have hL : ∀ l : List Qy, (∀ k ∈ l, samQ k k (c + 1) = true) → samL l l (c + 1) = true := by
    intro l
    induction l with
    | nil => intro _; rfl
    | cons x xs ih2 => intro hl; simp only [samL, hl x (by simp), Bool.true_and]; exact ih2 fun k hk => hl k (List.mem_cons_of_mem _ hk)
  simp only [samQ, Qy.op, Qy.n, Qy.s, Qy.kids, hL l hk, beq_self_eq_true, Bool.and_true, Bool.not_eq_true', decide_eq_false_iff_not]
  simp
  omega
/-- equal, as a Bool -/
theorem samQ_iff (a b : Qy) (h : depQ a 1 ≤ 64) : samQ a b 1 = true ↔ a = b := ⟨samQ_eq a b 1, fun e => by subst e; exact samQ_self a 1 h⟩

/-! ### what is left behind a query -/
mutual
def leftQ : Qy → Nat → Int → Int
  | ⟨_, _, s, ks⟩, d, n => leftL ks d (n - 1 - (s.length : Int) / 20)
def leftL : List Qy → Nat → Int → Int
  | [], _, n => n
  | k :: ks, d, n => if 0 < n ∧ d < 70 then leftL ks d (leftQ k (d + 1) n) else n
end
/-- all texts within are short -/
inductive Sml : Qy → Prop
  | mk {o n : Int} {s : List UInt8} {l : List Qy} : s.length ≤ 20000 → (∀ k ∈ l, Sml k) → Sml ⟨o, n, s, l⟩
theorem leftL_stop : ∀ (l : List Qy) (d : Nat) (n : Int), ¬ (0 < n ∧ d < 70) → leftL l d n = n
  | [], d, n, _ => by simp [leftL]
  | k :: ks, d, n, h => by simp only [leftL]; rw [if_neg h]
theorem left_mono (q : Qy) : ∀ (d : Nat) (n : Int), leftQ q d n ≤ n - 1 := by
  refine Qy.ind (p := fun q => ∀ (d : Nat) (n : Int), leftQ q d n ≤ n - 1) ?_ q
  intro o n s l ih d m
  simp only [leftQ]
  have hL : ∀ (l : List Qy), (∀ k ∈ l, ∀ (d : Nat) (n : Int), leftQ k d n ≤ n - 1) → ∀ m, leftL l d m ≤ m := by
    intro l
    induction l with
    | nil => intro _ m; simp [leftL]
    | cons x xs ih2 =>
      intro hl m
      simp only [leftL]
      split
      · have h1 := ih2 (fun k hk => hl k (List.mem_cons_of_mem _ hk)) (leftQ x (d + 1) m)
        have h2 := hl x (by simp) (d + 1) m
        omega
      · omega
  have := hL l ih (m - 1 - (s.length : Int) / 20)
  omega
/-- where more than nothing is left, all nodes were counted, and all texts are short -/
theorem left_pos (q : Qy) : ∀ (d c : Nat) (n : Int), d + 1 ≤ c → depQ q (d + 1) ≤ 64 → n ≤ 300 → 0 < leftQ q d n → (nodQ q : Int) + leftQ q d n ≤ n ∧ Sml q := by
  refine Qy.ind (p := fun q => ∀ (d c : Nat) (n : Int), d + 1 ≤ c → depQ q (d + 1) ≤ 64 → n ≤ 300 → 0 < leftQ q d n → (nodQ q : Int) + leftQ q d n ≤ n ∧ Sml q) ?_ q
  intro o nn s l ih d c n hc hd hn h
  have h0 := depQ_ge ⟨o, nn, s, l⟩ (d + 1)
  simp only [leftQ, nodQ] at h ⊢
  have hL : ∀ (l : List Qy), (∀ k ∈ l, ∀ (n : Int), n ≤ 300 → 0 < leftQ k (d + 1) n → (nodQ k : Int) + leftQ k (d + 1) n ≤ n ∧ Sml k) → ∀ (n : Int) (m : Nat), n ≤ 300 → 0 < leftL l d n → (nodL l m : Int) + leftL l d n ≤ m + n ∧ ∀ k ∈ l, Sml k := by
    intro l
    induction l with
    | nil => intro _ n m _ h; simp [leftL, nodL]
    | cons x xs ih2 =>
      intro hl n m hn h
      simp only [leftL, nodL] at h ⊢
      by_cases hpos : 0 < n
      · rw [if_pos ⟨hpos, by omega⟩] at h ⊢
        have h3 : 0 < leftQ x (d + 1) n := by
          rcases Classical.em (0 < leftQ x (d + 1) n) with h | hne
          · exact h
          · rw [leftL_stop _ _ _ (by omega)] at h; exact absurd h hne
        have h4 := hl x (by simp) n hn h3
        have h5 := ih2 (fun k hk => hl k (List.mem_cons_of_mem _ hk)) (leftQ x (d + 1) n) (m + nodQ x) (by omega) h
        refine ⟨by have := h5.1; have := h4.1; omega, fun k hk => ?_⟩
        rcases List.mem_cons.1 hk with rfl | hk
        · exact h4.2
        · exact h5.2 k hk
      · rw [if_neg (by omega)] at h
        exact absurd h hpos
  have hpos : 0 < n - 1 - (s.length : Int) / 20 := by
    rcases Classical.em (0 < n - 1 - (s.length : Int) / 20) with h | hne
    · exact h
    · rw [leftL_stop _ _ _ (by omega)] at h; exact absurd h hne
  have h6 := hL l (fun k hk n hn hp => ih k hk (d + 1) (d + 2) n (by omega) (depQ_kid hd (Nat.le_refl _) hk) hn hp) (n - 1 - (s.length : Int) / 20) 1 (by omega) h
  refine ⟨by have := h6.1; omega, .mk (by omega) h6.2⟩
theorem Sml.s {q : Qy} (h : Sml q) : q.s.length ≤ 20000 := by cases h with | mk h _ => exact h
theorem Sml.kid {q k : Qy} (h : Sml q) (hk : k ∈ q.kids) : Sml k := by cases h with | mk _ h => exact h k hk

/-! ### the normal form, as the code makes it -/
/-- an operation, the other way round -/
def otherO (o : Int) : Int := if o = 1 then 2 else if o = 2 then 1 else if o = 3 then 4 else 3
def notQ (q : Qy) : Qy := ⟨5, 0, [], [q]⟩
/-- not a leaf, or the leaf under a not -/
def oppQ (q : Qy) : Qy := if q.op = 5 then q.kids.headD .zero else notQ q
def anyQ (l : List Qy) (p : Qy → Bool) : Bool := l.any p
/-- things of which no two are the same -/
def onceL : List Qy → List Qy → List Qy
  | [], out => out
  | x :: xs, out => onceL xs (if out.any (fun y => samQ x y 1) then out else out ++ [x])
def neuO (o : Int) : Int := if o = 4 then 2 else 1
/-- kids laid flat; none: one of them decides -/
def flatL (o : Int) : List Qy → List Qy → Option (List Qy)
  | [], acc => some acc
  | k :: ks, acc => if k.op = o then flatL o ks (acc ++ k.kids) else if k.op = neuO o then flatL o ks acc else if k.op = otherO (neuO o) then none else flatL o ks (acc ++ [k])
/-- is one of them the opposite of one of few kids? -/
def clashB (l : List Qy) : Bool := l.any fun k => decide (k.kids.length < 2) && l.any fun x => samQ x (oppQ k) 1
def leafO (o : Int) : Qy := ⟨o, 0, [], []⟩
def endQ (o : Int) (l : List Qy) : Qy := match l with
  | [] => leafO (neuO o)
  | [x] => x
  | l => ⟨o, 0, [], l⟩
def joinQ (o : Int) (l : List Qy) : Qy := match flatL o l [] with
  | none => leafO (otherO (neuO o))
  | some f => if clashB (onceL f []) then leafO (otherO (neuO o)) else endQ o (onceL f [])
mutual
def normQ : Qy → Bool → Qy
  | ⟨o, n, s, ks⟩, b => if o = 5 then normH ks (!b) else if o = 3 ∨ o = 4 then joinQ (if b then otherO o else o) (normL ks b) else if b = false then ⟨o, n, s, []⟩ else if o = 1 ∨ o = 2 then leafO (otherO o) else oppQ ⟨o, n, s, []⟩
/-- the first of kids -/
def normH : List Qy → Bool → Qy
  | [], _ => .zero
  | k :: _, b => normQ k b
def normL : List Qy → Bool → List Qy
  | [], _ => []
  | k :: ks, b => normQ k b :: normL ks b
end
theorem normL_map : ∀ (l : List Qy) (b : Bool), normL l b = l.map fun k => normQ k b
  | [], b => rfl
  | x :: xs, b => by simp only [normL, List.map_cons]; rw [normL_map xs b]

/-! ### as the document says it -/
mutual
def pushQ : Qy → Bool → Qy
  | ⟨o, n, s, ks⟩, b => if o = 5 then pushH ks (!b) else if b = false then ⟨o, n, s, pushL ks b⟩ else if o = 1 ∨ o = 2 ∨ o = 3 ∨ o = 4 then ⟨otherO o, n, s, pushL ks b⟩ else notQ ⟨o, n, s, ks⟩
def pushH : List Qy → Bool → Qy
  | [], _ => .zero
  | k :: _, b => pushQ k b
def pushL : List Qy → Bool → List Qy
  | [], _ => []
  | k :: ks, b => pushQ k b :: pushL ks b
end
theorem pushL_map : ∀ (l : List Qy) (b : Bool), pushL l b = l.map fun k => pushQ k b
  | [], b => rfl
  | x :: xs, b => by simp only [pushL, List.map_cons]; rw [pushL_map xs b]
def hasB (l : List Qy) (q : Qy) : Bool := l.any fun x => samQ x q 1
def flatR (o : Int) : List Qy → List Qy → List Qy
  | [], acc => acc
  | k :: ks, acc => flatR o ks (if k.op = o then acc ++ k.kids else acc ++ [k])
/-- none twice, none that is neutral -/
def keepL (z : Qy) : List Qy → List Qy → List Qy
  | [], acc => acc
  | k :: ks, acc => keepL z ks (if !samQ k z 1 && !hasB acc k then acc ++ [k] else acc)
def winB (z : Qy) (l : List Qy) : Bool := l.any fun k => samQ k z 1 || hasB l (notQ k)
def endR (o : Int) (l : List Qy) : Qy := match l with
  | [] => leafO (neuO o)
  | [x] => x
  | l => ⟨o, 0, [], l⟩
def tidyR (o : Int) (l : List Qy) : Qy :=
  if winB (leafO (otherO (neuO o))) (keepL (leafO (neuO o)) (flatR o l []) []) then leafO (otherO (neuO o)) else endQ o (keepL (leafO (neuO o)) (flatR o l []) [])
mutual
def tidyQ : Qy → Qy
  | ⟨o, n, s, ks⟩ => if o = 3 ∨ o = 4 then tidyR o (tidyL ks) else ⟨o, n, s, ks⟩
def tidyL : List Qy → List Qy
  | [] => []
  | k :: ks => tidyQ k :: tidyL ks
end
theorem tidyL_map : ∀ (l : List Qy), tidyL l = l.map tidyQ
  | [] => rfl
  | x :: xs => by simp only [tidyL, List.map_cons]; rw [tidyL_map xs]
def refNorm (q : Qy) : Qy := tidyQ (pushQ q false)

/-! ### a normal form, within an operation -/
mutual
def norB : Qy → Int → Bool
  | ⟨o, n, s, ks⟩, i =>
    if o = 5 then ks.length == 1 && (ks.headD .zero).kids.length == 0 && (ks.headD .zero).op != 1 && (ks.headD .zero).op != 2
    else if o = 3 ∨ o = 4 then !decide (o = i ∨ ks.length < 2) && norL ks [] o
    else if o = 1 ∨ o = 2 then i == 0
    else norL ks [] o
def norL : List Qy → List Qy → Int → Bool
  | [], _, _ => true
  | k :: ks, done, o => norB k o && !(done.any fun x => samQ k x 1) && norL ks (done ++ [k]) o
end

/-- the shape of a query that may be -/
inductive Shp : Qy → Prop
  | leaf {o n : Int} {s : List UInt8} : o ≠ 3 → o ≠ 4 → o ≠ 5 → (o = 1 ∨ o = 2 → n = 0 ∧ s = []) → Shp ⟨o, n, s, []⟩
  | nt {k : Qy} : Shp k → Shp ⟨5, 0, [], [k]⟩
  | many {o : Int} {l : List Qy} : o = 3 ∨ o = 4 → (∀ k ∈ l, Shp k) → Shp ⟨o, 0, [], l⟩
/-- with a not above leaves alone -/
inductive Lf : Qy → Prop
  | leaf {o n : Int} {s : List UInt8} : o ≠ 1 → o ≠ 2 → o ≠ 3 → o ≠ 4 → o ≠ 5 → Lf ⟨o, n, s, []⟩
  | nt {k : Qy} {o n : Int} {s : List UInt8} : o ≠ 1 → o ≠ 2 → o ≠ 3 → o ≠ 4 → o ≠ 5 → k = ⟨o, n, s, []⟩ → Lf (notQ k)
/-- a normal form -/
inductive NF : Qy → Prop
  | one : NF (leafO 1)
  | two : NF (leafO 2)
  | lf {q : Qy} : Lf q → NF q
  | many {o : Int} {l : List Qy} : o = 3 ∨ o = 4 → 2 ≤ l.length → (∀ k ∈ l, NF k) → (∀ k ∈ l, k.op ≠ 1 ∧ k.op ≠ 2 ∧ k.op ≠ o) → l.Nodup → (∀ k ∈ l, notQ k ∉ l) → NF ⟨o, 0, [], l⟩
mutual
def htQ : Qy → Nat
  | ⟨_, _, _, ks⟩ => htL ks + 1
def htL : List Qy → Nat
  | [] => 0
  | k :: ks => max (htQ k) (htL ks)
end
theorem htL_mem : ∀ (l : List Qy) (k : Qy), k ∈ l → htQ k ≤ htL l
  | x :: xs, k, hk => by
    simp only [htL]
    rcases List.mem_cons.1 hk with rfl | hk
    · omega
    · have := htL_mem xs k hk; omega
theorem htL_le : ∀ (l : List Qy) (c : Nat), (∀ k ∈ l, htQ k ≤ c) → htL l ≤ c
  | [], c, _ => by simp [htL]
  | x :: xs, c, h => by
    simp only [htL]
    have := h x (by simp)
    have := htL_le xs c fun k hk => h k (List.mem_cons_of_mem _ hk)
    omega
theorem htQ_kid {o n : Int} {s : List UInt8} {l : List Qy} {k : Qy} (hk : k ∈ l) : htQ k + 1 ≤ htQ ⟨o, n, s, l⟩ := by
  have := htL_mem l k hk
  simp only [htQ] at *; omega
theorem htQ_mk {o n : Int} {s : List UInt8} {l : List Qy} {c : Nat} (h : ∀ k ∈ l, htQ k ≤ c) : htQ ⟨o, n, s, l⟩ ≤ c + 1 := by
  have := htL_le l c h
  simp only [htQ]; omega
theorem dep_ht (q : Qy) : ∀ a, depQ q a ≤ a + htQ q - 1 := by
  refine Qy.ind (p := fun q => ∀ a, depQ q a ≤ a + htQ q - 1) ?_ q
  intro o n s l ih a
  refine depQ_mk (by simp only [htQ]; omega) fun k hk => ?_
  have h1 := ih k hk (a + 1)
  have h2 := htQ_kid (o := o) (n := n) (s := s) hk
  omega
theorem ht_dep (q : Qy) : ∀ a, depQ q a ≤ 64 → a + htQ q ≤ depQ q a + 1 := by
  refine Qy.ind (p := fun q => ∀ a, depQ q a ≤ 64 → a + htQ q ≤ depQ q a + 1) ?_ q
  intro o n s l ih a h
  have h0 := depQ_ge ⟨o, n, s, l⟩ a
  have h1 : htL l ≤ depQ ⟨o, n, s, l⟩ a - a := htL_le l _ fun k hk => by
    have h2 := depQ_kid h (Nat.le_refl _) hk
    have h3 := ih k hk (a + 1) h2
    have h4 := depQ_kid (c := depQ ⟨o, n, s, l⟩ a) (Nat.le_refl _) h hk
    omega
  simp only [htQ]; omega
theorem sam_ht {a b : Qy} (h : htQ a ≤ 60) : samQ a b 1 = true ↔ a = b := samQ_iff a b (by have := dep_ht a 1; omega)
theorem sam_htF {a b : Qy} (h : htQ a ≤ 60) : samQ a b 1 = false ↔ a ≠ b := by
  rw [← Bool.not_eq_true, sam_ht h]
theorem any_sam {l : List Qy} {q : Qy} (h : ∀ k ∈ l, htQ k ≤ 60) : (l.any fun x => samQ x q 1) = true ↔ q ∈ l := by
  rw [List.any_eq_true]
  constructor
  · rintro ⟨x, hx, hs⟩; exact (sam_ht (h x hx)).1 hs ▸ hx
  · intro hq; exact ⟨q, hq, (sam_ht (h q hq)).2 rfl⟩
theorem any_sam' {l : List Qy} {q : Qy} (h : htQ q ≤ 60) : (l.any fun y => samQ q y 1) = true ↔ q ∈ l := by
  rw [List.any_eq_true]
  constructor
  · rintro ⟨x, hx, hs⟩; exact (sam_ht h).1 hs ▸ hx
  · intro hq; exact ⟨q, hq, (sam_ht h).2 rfl⟩

/-! ### once -/
theorem once_mem : ∀ (l acc : List Qy) (x : Qy), (∀ k ∈ l, htQ k ≤ 60) → (x ∈ onceL l acc ↔ x ∈ l ∨ x ∈ acc)
  | [], acc, x, _ => by simp [onceL]
  | y :: ys, acc, x, h => by
    simp only [onceL]
    have hy := h y (by simp)
    rw [once_mem ys _ x fun k hk => h k (List.mem_cons_of_mem _ hk)]
    by_cases ha : (acc.any fun z => samQ y z 1) = true
    · rw [if_pos ha]
      have := (any_sam' hy).1 ha
      simp only [List.mem_cons]
      constructor
      · rintro (h | h) <;> simp [h]
      · rintro ((rfl | h) | h) <;> simp [*]
    · rw [if_neg ha]
      simp only [List.mem_cons, List.mem_append, List.not_mem_nil, or_false]
      constructor
      · rintro (h | h | h) <;> simp [h]
      · rintro ((h | h) | h) <;> simp [h]
theorem once_nodup : ∀ (l acc : List Qy), (∀ k ∈ l, htQ k ≤ 60) → acc.Nodup → (onceL l acc).Nodup
  | [], acc, _, h => by simpa [onceL] using h
  | y :: ys, acc, h, hn => by
    simp only [onceL]
    refine once_nodup ys _ (fun k hk => h k (List.mem_cons_of_mem _ hk)) ?_
    by_cases ha : (acc.any fun z => samQ y z 1) = true
    · rw [if_pos ha]; exact hn
    · rw [if_neg ha]
      have : y ∉ acc := fun hm => ha ((any_sam' (h y (by simp))).2 hm)
      rw [List.nodup_append]
      refine ⟨hn, by simp, fun a hac b hb => ?_⟩
      simp only [List.mem_cons, List.not_mem_nil, or_false] at hb
      subst hb
      rintro rfl
      exact this hac
theorem once_same : ∀ (l acc : List Qy), (∀ k ∈ l, htQ k ≤ 60) → (acc ++ l).Nodup → onceL l acc = acc ++ l
  | [], acc, _, h => by simp [onceL]
  | y :: ys, acc, h, hn => by
    simp only [onceL]
    have hy : y ∉ acc := by
      intro hm
      rw [List.nodup_append] at hn
      exact hn.2.2 y hm y (by simp) rfl
    rw [if_neg (fun ha => hy ((any_sam' (h y (by simp))).1 ha)), once_same ys _ (fun k hk => h k (List.mem_cons_of_mem _ hk)) (by simpa using hn)]
    simp
theorem keep_once (z : Qy) : ∀ (l acc : List Qy), (∀ k ∈ l, htQ k ≤ 60) → (∀ k ∈ acc, htQ k ≤ 60) → keepL z l acc = onceL (l.filter fun k => !samQ k z 1) acc
  | [], acc, _, _ => rfl
  | y :: ys, acc, h, ha => by
    have hy := h y (by simp)
    have ih := fun acc ha => keep_once z ys acc (fun k hk => h k (List.mem_cons_of_mem _ hk)) ha
    simp only [keepL]
    have hbool : hasB acc y = acc.any fun w => samQ y w 1 := by
      rw [Bool.eq_iff_iff, any_sam' hy]; exact any_sam ha
    cases hz : samQ y z 1 with
    | true =>
      rw [List.filter_cons_of_neg (by simp [hz])]
      simp only [Bool.not_true, Bool.false_and, Bool.false_eq_true, if_false]
      exact ih acc ha
    | false =>
      rw [List.filter_cons_of_pos (by simp [hz])]
      simp only [Bool.not_false, Bool.true_and, onceL, hbool]
      cases hh : acc.any fun w => samQ y w 1 with
      | true => simp only [Bool.not_true, Bool.false_eq_true, if_false, if_true]; exact ih acc ha
      | false =>
        simp only [Bool.not_false, Bool.false_eq_true, if_false, if_true]
        refine ih _ fun k hk => ?_
        rcases List.mem_append.1 hk with hk | hk
        · exact ha k hk
        · simp only [List.mem_cons, List.not_mem_nil, or_false] at hk; subst hk; exact hy

/-! ### flat -/
theorem NF.op12 {q : Qy} (h : NF q) (h1 : q.op = 1 ∨ q.op = 2) : q = leafO q.op := by
  cases h with
  | one => rfl
  | two => rfl
  | lf h => cases h with
    | leaf => simp_all [Qy.op]
    | nt => simp [notQ, Qy.op] at h1
  | many h => simp only [Qy.op] at h1; omega
theorem flat_none (o : Int) (ho : o = 3 ∨ o = 4) : ∀ (l acc : List Qy), (∃ k ∈ l, k.op = otherO (neuO o)) → flatL o l acc = none
  | [], acc, h => by obtain ⟨k, hk, _⟩ := h; cases hk
  | y :: ys, acc, h => by
    simp only [flatL]
    have ho2 : otherO (neuO o) ≠ o ∧ otherO (neuO o) ≠ neuO o := by rcases ho with rfl | rfl <;> decide
    by_cases e : y.op = otherO (neuO o)
    · rw [if_neg (by rw [e]; exact ho2.1), if_neg (by rw [e]; exact ho2.2), if_pos e]
    · have h' : ∃ k ∈ ys, k.op = otherO (neuO o) := by
        obtain ⟨k, hk, he⟩ := h
        rcases List.mem_cons.1 hk with rfl | hk
        · exact absurd he e
        · exact ⟨k, hk, he⟩
      rw [flat_none o ho ys _ h', flat_none o ho ys _ h', flat_none o ho ys _ h', if_neg e]
      split <;> (try rfl)
      split <;> rfl
theorem flat_some (o : Int) : ∀ (l acc : List Qy), (∀ k ∈ l, k.op ≠ otherO (neuO o)) → flatL o l acc = some (acc ++ l.flatMap fun k => if k.op = o then k.kids else if k.op = neuO o then [] else [k])
  | [], acc, _ => by simp [flatL]
  | y :: ys, acc, h => by
    have ih := fun acc => flat_some o ys acc fun k hk => h k (List.mem_cons_of_mem _ hk)
    have hy := h y (by simp)
    simp only [flatL, ih, if_neg hy, List.flatMap_cons]
    split
    · simp
    · split <;> simp
theorem flatR_eq (o : Int) : ∀ (l acc : List Qy), flatR o l acc = acc ++ l.flatMap fun k => if k.op = o then k.kids else [k]
  | [], acc => by simp [flatR]
  | y :: ys, acc => by
    simp only [flatR, flatR_eq o ys, List.flatMap_cons]
    split <;> simp
/-- what may stand among kids -/
def In (o : Int) (k : Qy) : Prop := NF k ∧ k.op ≠ 1 ∧ k.op ≠ 2 ∧ k.op ≠ o
theorem NF.inner {q : Qy} {o : Int} (h : NF q) (ho : o = 3 ∨ o = 4) (e : q.op = o) : ∀ k ∈ q.kids, In o k := by
  cases h with
  | one => simp [leafO, Qy.kids]
  | two => simp [leafO, Qy.kids]
  | lf h => cases h with
    | leaf => simp [Qy.kids]
    | nt => simp [notQ, Qy.op] at e; omega
  | many _ _ h1 h2 =>
    simp only [Qy.op] at e
    subst e
    intro k hk
    exact ⟨h1 k hk, h2 k hk⟩
/-- the flat list -/
def flatF (o : Int) (l : List Qy) : List Qy := l.flatMap fun k => if k.op = o then k.kids else if k.op = neuO o then [] else [k]
theorem flatF_in {o : Int} (ho : o = 3 ∨ o = 4) {l : List Qy} (h : ∀ k ∈ l, NF k) (hw : ∀ k ∈ l, k.op ≠ otherO (neuO o)) : ∀ e ∈ flatF o l, In o e := by
  intro e he
  unfold flatF at he
  obtain ⟨k, hk, he⟩ := List.mem_flatMap.1 he
  by_cases e1 : k.op = o
  · rw [if_pos e1] at he; exact (h k hk).inner ho e1 e he
  · rw [if_neg e1] at he
    by_cases e2 : k.op = neuO o
    · rw [if_pos e2] at he; cases he
    · rw [if_neg e2] at he
      simp only [List.mem_cons, List.not_mem_nil, or_false] at he
      subst he
      have h3 := hw e hk
      refine ⟨h e hk, ?_, ?_, e1⟩ <;> rcases ho with rfl | rfl <;> simp [neuO, otherO] at * <;> assumption
theorem kids_ht {k : Qy} {c : Nat} (h : htQ k ≤ c) : ∀ e ∈ k.kids, htQ e ≤ c := by
  obtain ⟨o, n, s, l⟩ := k
  intro e he
  have := htQ_kid (o := o) (n := n) (s := s) (l := l) he
  omega
theorem flatF_ht {o : Int} {l : List Qy} {c : Nat} (h : ∀ k ∈ l, htQ k ≤ c) : ∀ e ∈ flatF o l, htQ e ≤ c := by
  intro e he
  unfold flatF at he
  obtain ⟨k, hk, he⟩ := List.mem_flatMap.1 he
  split at he
  · exact kids_ht (h k hk) e he
  · split at he
    · cases he
    · simp only [List.mem_cons, List.not_mem_nil, or_false] at he; subst he; exact h e hk
theorem flatR_ht {o : Int} {l : List Qy} {c : Nat} (h : ∀ k ∈ l, htQ k ≤ c) : ∀ e ∈ flatR o l [], htQ e ≤ c := by
  intro e he
  rw [flatR_eq, List.nil_append] at he
  obtain ⟨k, hk, he⟩ := List.mem_flatMap.1 he
  split at he
  · exact kids_ht (h k hk) e he
  · simp only [List.mem_cons, List.not_mem_nil, or_false] at he; subst he; exact h e hk
theorem neu_le (o : Int) : htQ (leafO o) ≤ 1 := by simp [leafO, htQ, htL]
theorem flat_filter {o : Int} (ho : o = 3 ∨ o = 4) : ∀ (l : List Qy), (∀ k ∈ l, NF k) → (∀ k ∈ l, htQ k ≤ 60) → (flatR o l []).filter (fun k => !samQ k (leafO (neuO o)) 1) = flatF o l := by
  intro l h ht
  rw [flatR_eq, List.nil_append]
  unfold flatF
  rw [List.filter_flatMap]
  induction l with
  | nil => rfl
  | cons y ys ih =>
    rw [List.flatMap_cons, List.flatMap_cons, ih (fun k hk => h k (List.mem_cons_of_mem _ hk)) (fun k hk => ht k (List.mem_cons_of_mem _ hk))]
    congr 1
    have hy := h y (by simp)
    have h60 := ht y (by simp)
    have hop : (leafO (neuO o)).op = neuO o := rfl
    have h12 : neuO o = 1 ∨ neuO o = 2 := by rcases ho with rfl | rfl <;> simp [neuO]
    by_cases e1 : y.op = o
    · rw [if_pos e1, if_pos e1, List.filter_eq_self]
      intro e he
      have hi := hy.inner ho e1 e he
      have : samQ e (leafO (neuO o)) 1 = false := (sam_htF (kids_ht h60 e he)).2 fun hh => by
        have h2 := hi.2
        rw [hh, hop] at h2
        omega
      simp [this]
    · rw [if_neg e1, if_neg e1]
      by_cases e2 : y.op = neuO o
      · rw [if_pos e2]
        have hz := hy.op12 (by omega)
        rw [e2] at hz
        have : samQ y (leafO (neuO o)) 1 = true := (sam_ht h60).2 hz
        simp [this]
      · rw [if_neg e2]
        have : samQ y (leafO (neuO o)) 1 = false := (sam_htF h60).2 fun hh => e2 (by rw [hh]; rfl)
        simp [this]

/-! ### the two ways to join -/
theorem NF.not_ {k : Qy} (h : NF (notQ k)) : k.kids = [] ∧ k.op ≠ 5 := by
  generalize hq : notQ k = q at h
  cases h with
  | one => simp [notQ, leafO] at hq
  | two => simp [notQ, leafO] at hq
  | lf h => cases h with
    | leaf => simp [notQ] at hq
    | nt _ _ _ _ h5 he =>
      simp [notQ] at hq
      subst hq
      subst he
      exact ⟨rfl, h5⟩
  | many ho => simp [notQ] at hq; omega
theorem clash_iff {o : Int} {K : List Qy} (h : ∀ k ∈ K, In o k) (ht : ∀ k ∈ K, htQ k ≤ 60) : clashB K = true ↔ ∃ k ∈ K, notQ k ∈ K := by
  unfold clashB
  rw [List.any_eq_true]
  constructor
  · rintro ⟨k, hk, hb⟩
    rw [Bool.and_eq_true, decide_eq_true_eq, any_sam ht] at hb
    obtain ⟨h2, ho⟩ := hb
    obtain ⟨hnf, h1, h22, _⟩ := h k hk
    cases hnf with
    | one => simp [leafO, Qy.op] at h1
    | two => simp [leafO, Qy.op] at h22
    | lf hl => cases hl with
      | leaf _ _ _ _ h5 => rw [oppQ, if_neg (show ¬ (Qy.mk _ _ _ []).op = 5 from h5)] at ho; exact ⟨_, hk, ho⟩
      | nt _ _ _ _ _ he => rw [oppQ, if_pos (show (notQ _).op = 5 from rfl)] at ho; exact ⟨_, ho, hk⟩
    | many _ hl => simp only [Qy.kids] at h2; omega
  · rintro ⟨k, hk, hn⟩
    refine ⟨k, hk, ?_⟩
    obtain ⟨h1, h5⟩ := (h _ hn).1.not_
    rw [Bool.and_eq_true, decide_eq_true_eq, any_sam ht, oppQ, if_neg h5, h1]
    exact ⟨by simp, hn⟩
theorem win_iff {o : Int} (ho : o = 3 ∨ o = 4) {K : List Qy} (h : ∀ k ∈ K, In o k) (ht : ∀ k ∈ K, htQ k ≤ 60) : winB (leafO (otherO (neuO o))) K = true ↔ ∃ k ∈ K, notQ k ∈ K := by
  unfold winB
  rw [List.any_eq_true]
  constructor
  · rintro ⟨k, hk, hb⟩
    rw [Bool.or_eq_true] at hb
    rcases hb with hb | hb
    · have he := (sam_ht (ht k hk)).1 hb
      have h2 := (h k hk).2
      rw [he] at h2
      rcases ho with rfl | rfl <;> simp [leafO, Qy.op, neuO, otherO] at h2
    · exact ⟨k, hk, (any_sam ht).1 hb⟩
  · rintro ⟨k, hk, hn⟩
    exact ⟨k, hk, by rw [Bool.or_eq_true]; exact .inr ((any_sam ht).2 hn)⟩
theorem join_tidy {o : Int} (ho : o = 3 ∨ o = 4) {l : List Qy} (h : ∀ k ∈ l, NF k) (ht : ∀ k ∈ l, htQ k ≤ 60) : tidyR o l = joinQ o l := by
  unfold tidyR joinQ
  have hz : ∀ k ∈ ([] : List Qy), htQ k ≤ 60 := by simp
  rw [keep_once _ _ _ (flatR_ht ht) hz, flat_filter ho l h ht]
  by_cases hw : ∃ k ∈ l, k.op = otherO (neuO o)
  · rw [flat_none o ho l [] hw]
    obtain ⟨k, hk, he⟩ := hw
    have hwn : otherO (neuO o) ≠ o ∧ otherO (neuO o) ≠ neuO o ∧ (otherO (neuO o) = 1 ∨ otherO (neuO o) = 2) := by rcases ho with rfl | rfl <;> decide
    have hkk : k = leafO (otherO (neuO o)) := by rw [← he]; exact (h k hk).op12 (by omega)
    rw [if_pos]
    unfold winB
    rw [List.any_eq_true]
    refine ⟨k, (once_mem _ _ _ (flatF_ht ht)).2 (.inl ?_), ?_⟩
    · unfold flatF
      rw [List.mem_flatMap]
      refine ⟨k, hk, ?_⟩
      rw [if_neg (by rw [he]; exact hwn.1), if_neg (by rw [he]; exact hwn.2.1)]
      simp
    · rw [Bool.or_eq_true]
      exact .inl ((sam_ht (ht k hk)).2 hkk)
  · have hw' : ∀ k ∈ l, k.op ≠ otherO (neuO o) := fun k hk he => hw ⟨k, hk, he⟩
    rw [flat_some o l [] hw', List.nil_append, ← flatF]
    have hF := flatF_in ho h hw'
    have hT := flatF_ht (o := o) ht
    show (if winB _ (onceL (flatF o l) []) = true then _ else _) = (if clashB (onceL (flatF o l) []) = true then _ else _)
    have hK : ∀ k ∈ onceL (flatF o l) [], In o k := fun k hk => by
      rcases (once_mem _ _ _ hT).1 hk with hk | hk
      · exact hF k hk
      · cases hk
    have hKT : ∀ k ∈ onceL (flatF o l) [], htQ k ≤ 60 := fun k hk => by
      rcases (once_mem _ _ _ hT).1 hk with hk | hk
      · exact hT k hk
      · cases hk
    rw [show winB (leafO (otherO (neuO o))) (onceL (flatF o l) []) = clashB (onceL (flatF o l) []) by rw [Bool.eq_iff_iff, win_iff ho hK hKT, clash_iff hK hKT]]
theorem leaf_NF {o : Int} (h : o = 1 ∨ o = 2) : NF (leafO o) := by
  rcases h with rfl | rfl
  · exact .one
  · exact .two
theorem end_one {o : Int} (x : Qy) : endQ o [x] = x := rfl
theorem end_many {o : Int} {l : List Qy} (h : 2 ≤ l.length) : endQ o l = ⟨o, 0, [], l⟩ := by
  match l, h with
  | a :: b :: t, _ => rfl
theorem join_NF {o : Int} (ho : o = 3 ∨ o = 4) {l : List Qy} {c : Nat} (h : ∀ k ∈ l, NF k) (ht : ∀ k ∈ l, htQ k ≤ c) (hc : c ≤ 60) : NF (joinQ o l) ∧ htQ (joinQ o l) ≤ c + 1 := by
  have ht6 : ∀ k ∈ l, htQ k ≤ 60 := fun k hk => by have := ht k hk; omega
  have h12 : otherO (neuO o) = 1 ∨ otherO (neuO o) = 2 := by rcases ho with rfl | rfl <;> decide
  have hn12 : neuO o = 1 ∨ neuO o = 2 := by rcases ho with rfl | rfl <;> decide
  have hleaf : ∀ x, htQ (leafO x) ≤ c + 1 := fun x => by have := neu_le x; omega
  unfold joinQ
  by_cases hw : ∃ k ∈ l, k.op = otherO (neuO o)
  · rw [flat_none o ho l [] hw]
    exact ⟨leaf_NF h12, hleaf _⟩
  · have hw' : ∀ k ∈ l, k.op ≠ otherO (neuO o) := fun k hk he => hw ⟨k, hk, he⟩
    rw [flat_some o l [] hw', List.nil_append, ← flatF]
    have hF := flatF_in ho h hw'
    have hT := flatF_ht (o := o) ht
    have hT6 := flatF_ht (o := o) ht6
    show NF (if clashB (onceL (flatF o l) []) = true then _ else _) ∧ htQ (if clashB (onceL (flatF o l) []) = true then _ else _) ≤ c + 1
    have hK : ∀ k ∈ onceL (flatF o l) [], In o k ∧ htQ k ≤ c := fun k hk => by
      rcases (once_mem _ _ _ hT6).1 hk with hk | hk
      · exact ⟨hF k hk, hT k hk⟩
      · cases hk
    have hnd := once_nodup (flatF o l) [] hT6 (by simp)
    generalize onceL (flatF o l) [] = K at *
    by_cases hcl : clashB K = true
    · rw [if_pos hcl]; exact ⟨leaf_NF h12, hleaf _⟩
    · rw [if_neg hcl]
      have hno : ∀ k ∈ K, notQ k ∉ K := fun k hk hn => hcl ((clash_iff (fun k hk => (hK k hk).1) (fun k hk => by have := (hK k hk).2; omega)).2 ⟨k, hk, hn⟩)
      match K, hK, hnd, hno with
      | [], _, _, _ => exact ⟨leaf_NF hn12, hleaf _⟩
      | [x], hK, _, _ => exact ⟨(hK x (by simp)).1.1, by have := (hK x (by simp)).2; rw [end_one]; omega⟩
      | a :: b :: t, hK, hnd, hno =>
        refine ⟨.many ho (by simp) (fun k hk => (hK k hk).1.1) (fun k hk => (hK k hk).1.2) hnd hno, htQ_mk fun k hk => (hK k hk).2⟩

/-! ### the normal form -/
theorem norm_all (q : Qy) : Shp q → ∀ b, htQ q ≤ 50 → NF (normQ q b) ∧ htQ (normQ q b) ≤ htQ q + 1 ∧ tidyQ (pushQ q b) = normQ q b := by
  refine Qy.ind (p := fun q => Shp q → ∀ b, htQ q ≤ 50 → NF (normQ q b) ∧ htQ (normQ q b) ≤ htQ q + 1 ∧ tidyQ (pushQ q b) = normQ q b) ?_ q
  intro o n s l ih hs b hb
  cases hs with
  | leaf h3 h4 h5 h12 =>
    have h1 : htQ ⟨o, n, s, []⟩ = 1 := by simp [htQ, htL]
    simp only [normQ, pushQ, pushL, if_neg h5, if_neg (show ¬ (o = 3 ∨ o = 4) by omega), h1]
    cases b with
    | false =>
      simp only [if_true, tidyQ, if_neg (show ¬ (o = 3 ∨ o = 4) by omega)]
      refine ⟨?_, by simp [htQ, htL], trivial⟩
      by_cases ho : o = 1 ∨ o = 2
      · obtain ⟨rfl, rfl⟩ := h12 ho
        exact leaf_NF ho
      · exact .lf (.leaf (by omega) (by omega) h3 h4 h5)
    | true =>
      simp only [Bool.true_eq_false, if_false]
      by_cases ho : o = 1 ∨ o = 2
      · obtain ⟨rfl, rfl⟩ := h12 ho
        rw [if_pos ho, if_pos (by omega)]
        have h12 : otherO o = 1 ∨ otherO o = 2 := by rcases ho with rfl | rfl <;> decide
        refine ⟨leaf_NF h12, by have := neu_le (otherO o); omega, ?_⟩
        simp only [tidyQ, if_neg (show ¬ (otherO o = 3 ∨ otherO o = 4) by omega)]
        rfl
      · rw [if_neg ho, if_neg (by omega), oppQ, if_neg (show ¬ (Qy.mk o n s []).op = 5 from h5)]
        refine ⟨.lf (.nt (by omega) (by omega) h3 h4 h5 rfl), ?_, ?_⟩
        · simp [notQ, htQ, htL]
        · simp [notQ, tidyQ]
  | nt hk =>
    rename_i k
    have hh := htQ_kid (o := 5) (n := 0) (s := []) (l := [k]) (k := k) (by simp)
    obtain ⟨h1, h2, h3⟩ := ih k (by simp) hk (!b) (by omega)
    simp only [normQ, pushQ, normH, pushH, if_true]
    exact ⟨h1, by omega, h3⟩
  | many ho hl =>
    have h5 : o ≠ 5 := by omega
    have hh : ∀ k ∈ l, htQ k + 1 ≤ htQ ⟨o, 0, [], l⟩ := fun k hk => htQ_kid hk
    have hN : ∀ k ∈ l.map (fun k => normQ k b), NF k ∧ htQ k ≤ htQ ⟨o, 0, [], l⟩ := by
      intro k hk
      obtain ⟨x, hx, rfl⟩ := List.mem_map.1 hk
      obtain ⟨h1, h2, _⟩ := ih x hx (hl x hx) b (by have := hh x hx; omega)
      exact ⟨h1, by have := hh x hx; omega⟩
    have ho2 : (if b = true then otherO o else o) = 3 ∨ (if b = true then otherO o else o) = 4 := by rcases ho with rfl | rfl <;> cases b <;> simp [otherO]
    have hJ := join_NF ho2 (fun k hk => (hN k hk).1) (fun k hk => (hN k hk).2) (by omega)
    have hT := join_tidy ho2 (fun k hk => (hN k hk).1) (fun k hk => by have := (hN k hk).2; omega)
    simp only [normQ, pushQ, if_neg h5, if_pos ho, normL_map, pushL_map]
    refine ⟨hJ.1, hJ.2, ?_⟩
    rw [← hT]
    have hm : (l.map fun k => pushQ k b).map tidyQ = l.map fun k => normQ k b := by
      rw [List.map_map]
      refine List.map_congr_left fun k hk => ?_
      exact (ih k hk (hl k hk) b (by have := hh k hk; omega)).2.2
    cases b with
    | false => simp only [if_true, tidyQ, if_pos ho, tidyL_map, hm, Bool.false_eq_true, if_false]
    | true =>
      simp only [Bool.true_eq_false, if_false, if_true, if_pos (show o = 1 ∨ o = 2 ∨ o = 3 ∨ o = 4 by omega)]
      have ho3 : otherO o = 3 ∨ otherO o = 4 := by rcases ho with rfl | rfl <;> decide
      simp only [tidyQ, if_pos ho3, tidyL_map, hm]
theorem NF.again {x : Qy} (h : NF x) : htQ x ≤ 60 → normQ x false = x := by
  induction h with
  | one => intro _; rfl
  | two => intro _; rfl
  | lf h =>
    intro _
    cases h with
    | leaf h1 h2 h3 h4 h5 => 
      simp only [normQ, if_neg h5, if_true]
      rw [if_neg (by omega)]
    | nt h1 h2 h3 h4 h5 he =>
      subst he
      simp only [notQ, normQ, normH, if_true, if_neg h5, Bool.not_false, Bool.true_eq_false, if_false]
      rw [if_neg (by omega), if_neg (by omega), oppQ, if_neg (show ¬ (Qy.mk _ _ _ []).op = 5 from h5)]
      rfl
  | many ho hlen hNF hin hnd hno ih =>
    rename_i o l
    intro ht
    have hh : ∀ k ∈ l, htQ k ≤ 60 := fun k hk => by have := htQ_kid (o := o) (n := 0) (s := []) hk; omega
    have hm : (l.map fun k => normQ k false) = l := by
      rw [List.map_congr_left (g := id) fun k hk => ih k hk (hh k hk)]; simp
    have ho5 : o ≠ 5 := by omega
    simp only [normQ, if_neg ho5, if_pos ho, normL_map, hm, Bool.false_eq_true, if_false]
    have hw' : ∀ k ∈ l, k.op ≠ otherO (neuO o) := fun k hk => by
      have := hin k hk
      rcases ho with rfl | rfl <;> simp [neuO, otherO] <;> omega
    have hf : (l.flatMap fun k => if k.op = o then k.kids else if k.op = neuO o then [] else [k]) = l := by
      have : ∀ l : List Qy, (∀ k ∈ l, k.op ≠ 1 ∧ k.op ≠ 2 ∧ k.op ≠ o) → (l.flatMap fun k => if k.op = o then k.kids else if k.op = neuO o then [] else [k]) = l := by
        intro l
        induction l with
        | nil => intro _; rfl
        | cons y ys ih =>
          intro hl
          have hy := hl y (by simp)
          rw [List.flatMap_cons, ih fun k hk => hl k (List.mem_cons_of_mem _ hk), if_neg hy.2.2, if_neg (by rcases ho with rfl | rfl <;> simp [neuO] <;> omega)]
          rfl
      exact this l hin
    unfold joinQ
    rw [flat_some o l [] hw', List.nil_append, hf]
    simp only []
    rw [once_same l [] hh (by simpa using hnd), List.nil_append, if_neg, end_many hlen]
    intro hc
    obtain ⟨k, hk, hn⟩ := (clash_iff (o := o) (fun k hk => ⟨hNF k hk, hin k hk⟩) hh).1 hc
    exact hno k hk hn
theorem NF.normal {x : Qy} (h : NF x) : htQ x ≤ 60 → ∀ i : Int, (x.op = 1 ∨ x.op = 2 → i = 0) → (x.op ≠ i ∨ ¬ (x.op = 3 ∨ x.op = 4)) → norB x i = true := by
  induction h with
  | one => intro _ i h1 _; simp [leafO, Qy.op] at h1; subst h1; rfl
  | two => intro _ i h1 _; simp [leafO, Qy.op] at h1; subst h1; rfl
  | lf h =>
    intro _ i _ _
    cases h with
    | leaf h1 h2 h3 h4 h5 =>
      simp only [norB]
      rw [if_neg h5, if_neg (by omega), if_neg (by omega)]
      rfl
    | nt h1 h2 h3 h4 h5 he =>
      subst he
      simp [notQ, norB, Qy.kids, Qy.op, h1, h2]
  | many ho hlen hNF hin hnd hno ih =>
    rename_i o l
    intro ht i _ hi
    have hh : ∀ k ∈ l, htQ k ≤ 60 := fun k hk => by have := htQ_kid (o := o) (n := 0) (s := []) hk; omega
    simp only [Qy.op] at hi
    simp only [norB]
    rw [if_neg (show o ≠ 5 by omega), if_pos ho]
    have hL : ∀ (l done : List Qy), (done ++ l).Nodup → (∀ k ∈ l, norB k o = true) → (∀ k ∈ done, htQ k ≤ 60) → (∀ k ∈ l, htQ k ≤ 60) → norL l done o = true := by
      intro l
      induction l with
      | nil => intro done _ _ _ _; rfl
      | cons y ys ih2 =>
        intro done hnd hb hd hl
        simp only [norL, hb y (by simp), Bool.true_and]
        have hy : y ∉ done := by
          intro hm
          rw [List.nodup_append] at hnd
          exact hnd.2.2 y hm y (by simp) rfl
        have hy2 : (done.any fun x => samQ y x 1) = false := by
          rw [← Bool.not_eq_true, any_sam' (hl y (by simp))]; exact hy
        rw [hy2, Bool.not_false, Bool.true_and]
        refine ih2 _ (by simpa using hnd) (fun k hk => hb k (List.mem_cons_of_mem _ hk)) (fun k hk => ?_) (fun k hk => hl k (List.mem_cons_of_mem _ hk))
        rcases List.mem_append.1 hk with hk | hk
        · exact hd k hk
        · simp only [List.mem_cons, List.not_mem_nil, or_false] at hk; subst hk; exact hl k (by simp)
    rw [hL l [] (by simpa using hnd) (fun k hk => ih k hk (hh k hk) o (fun h1 => absurd h1 (by have := hin k hk; omega)) (.inl (hin k hk).2.2)) (by simp) hh]
    simp
    omega
end Go.Nst
