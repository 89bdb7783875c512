/-
  Queries' texts and what they lean on, part 0: only what the claims need.
-/
import Derived.Lib.Hide
section
namespace Go.Nst
set_option linter.unusedVariables false
set_option linter.unusedSimpArgs false

/-- a query: an operation, a number, a text, queries within it -/
inductive Qy where
  | mk (op n : Int) (s : List UInt8) (kids : List Qy)
namespace Qy
def op : Qy → Int | ⟨o, _, _, _⟩ => o
def n : Qy → Int | ⟨_, n, _, _⟩ => n
def s : Qy → List UInt8 | ⟨_, _, s, _⟩ => s
def kids : Qy → List Qy | ⟨_, _, _, l⟩ => l
def zero : Qy := ⟨0, 0, [], []⟩
end Qy
/-- induction over queries -/
theorem Qy.ind {p : Qy → Prop} (h : ∀ o n s l, (∀ k ∈ l, p k) → p ⟨o, n, s, l⟩) : ∀ q, p q := fun q =>
  Qy.rec (motive_1 := p) (motive_2 := fun l => ∀ k ∈ l, p k) (fun o n s l hl => h o n s l hl) (by simp) (fun x xs hx hxs k hk => by
    rcases List.mem_cons.1 hk with rfl | hk
    · exact hx
    · exact hxs k hk) q

mutual
/-- how deep, at a depth; up to 65 -/
def depQ : Qy → Nat → Nat
  | ⟨_, _, _, ks⟩, a => if 64 < a then a else depL ks a a
/-- of kids, so deep already -/
def depL : List Qy → Nat → Nat → Nat
  | [], _, m => m
  | k :: ks, a, m => depL ks a (max m (depQ k (a + 1)))
end
mutual
def nodQ : Qy → Nat
  | ⟨_, _, _, ks⟩ => nodL ks 1
def nodL : List Qy → Nat → Nat
  | [], m => m
  | k :: ks, m => nodL ks (m + nodQ k)
end
mutual
def samQ : Qy → Qy → Nat → Bool
  | ⟨o, n, s, ks⟩, q, a => !decide (64 < a) && o == q.op && n == q.n && s == q.s && decide (ks.length = q.kids.length) && samL ks q.kids (a + 1)
/-- kids, as far as both go -/
def samL : List Qy → List Qy → Nat → Bool
  | x :: xs, y :: ys, a => samQ x y a && samL xs ys a
  | [], _, _ => true
  | _ :: _, [], _ => true
end
theorem depL_snoc : ∀ (l : List Qy) (k : Qy) (a m : Nat), depL (l ++ [k]) a m = max (depL l a m) (depQ k (a + 1))
  | [], k, a, m => by simp [depL]
  | x :: xs, k, a, m => by simp only [List.cons_append, depL]; exact depL_snoc xs k a _
theorem nodL_snoc : ∀ (l : List Qy) (k : Qy) (m : Nat), nodL (l ++ [k]) m = nodL l m + nodQ k
  | [], k, m => by simp [nodL]
  | x :: xs, k, m => by simp only [List.cons_append, nodL]; exact nodL_snoc xs k _
theorem depL_ge : ∀ (l : List Qy) (a m : Nat), m ≤ depL l a m
  | [], a, m => by simp [depL]
  | x :: xs, a, m => by have := depL_ge xs a (max m (depQ x (a + 1))); simp only [depL]; omega
theorem depL_mem : ∀ (l : List Qy) (a m : Nat) (k : Qy), k ∈ l → depQ k (a + 1) ≤ depL l a m
  | x :: xs, a, m, k, hk => by
    simp only [depL]
    rcases List.mem_cons.1 hk with rfl | hk
    · have := depL_ge xs a (max m (depQ k (a + 1))); omega
    · exact depL_mem xs a _ k hk
theorem depL_le : ∀ (l : List Qy) (a m c : Nat), m ≤ c → (∀ k ∈ l, depQ k (a + 1) ≤ c) → depL l a m ≤ c
  | [], a, m, c, h, _ => by simpa [depL] using h
  | x :: xs, a, m, c, h, hl => by
    simp only [depL]
    refine depL_le xs a _ c ?_ (fun k hk => hl k (List.mem_cons_of_mem _ hk))
    have := hl x (by simp)
    omega
theorem depQ_ge (q : Qy) (a : Nat) : a ≤ depQ q a := by
  obtain ⟨o, n, s, ks⟩ := q
  simp only [depQ]
  split
  · omega
  · exact depL_ge _ _ _
theorem depQ_65 (q : Qy) : ∀ a, a ≤ 65 → depQ q a ≤ 65 := by
  refine Qy.ind (p := fun q => ∀ a, a ≤ 65 → depQ q a ≤ 65) ?_ q
  intro o n s l ih a ha
  simp only [depQ]
  split
  · exact ha
  · exact depL_le _ _ _ _ (by omega) (fun k hk => ih k hk (a + 1) (by omega))
theorem depQ_kid {o n : Int} {s : List UInt8} {l : List Qy} {a c : Nat} (h : depQ ⟨o, n, s, l⟩ a ≤ c) (hc : c ≤ 64) {k : Qy} (hk : k ∈ l) : depQ k (a + 1) ≤ c := by
  have h0 := depQ_ge ⟨o, n, s, l⟩ a
  have h1 : depQ ⟨o, n, s, l⟩ a = depL l a a := by simp only [depQ]; rw [if_neg (by omega)]
  have := depL_mem l a a k hk
  omega
theorem depQ_mk {o n : Int} {s : List UInt8} {l : List Qy} {a c : Nat} (ha : a ≤ c) (hk : ∀ k ∈ l, depQ k (a + 1) ≤ c) : depQ ⟨o, n, s, l⟩ a ≤ c := by
  simp only [depQ]
  split
  · exact ha
  · exact depL_le _ _ _ _ ha hk
theorem depL_65 (l : List Qy) (a m : Nat) (ha : a ≤ 64) (hm : m ≤ 65) : depL l a m ≤ 65 := depL_le _ _ _ _ hm (fun k _ => depQ_65 k _ (by omega))
theorem nodL_ge : ∀ (l : List Qy) (m : Nat), m ≤ nodL l m
  | [], m => by simp [nodL]
  | x :: xs, m => by have := nodL_ge xs (m + nodQ x); simp only [nodL]; omega
theorem nodL_mem : ∀ (l : List Qy) (m : Nat) (k : Qy), k ∈ l → m + nodQ k ≤ nodL l m
  | x :: xs, m, k, hk => by
    simp only [nodL]
    rcases List.mem_cons.1 hk with rfl | hk
    · exact nodL_ge xs _
    · have := nodL_mem xs (m + nodQ x) k hk; omega
theorem nodQ_pos (q : Qy) : 1 ≤ nodQ q := by obtain ⟨o, n, s, ks⟩ := q; simp only [nodQ]; exact nodL_ge _ _
theorem nodL_take : ∀ (l : List Qy) (m k : Nat), nodL (l.take k) m ≤ nodL l m
  | [], m, k => by simp
  | x :: xs, m, 0 => by simp only [List.take_zero, nodL]; have := nodL_ge xs (m + nodQ x); omega
  | x :: xs, m, k + 1 => by simp only [List.take_succ_cons, nodL]; exact nodL_take xs _ k
theorem nodL_add : ∀ (l : List Qy) (m : Nat), nodL l m = m + nodL l 0
  | [], m => by simp [nodL]
  | x :: xs, m => by simp only [nodL]; rw [nodL_add xs (m + nodQ x), nodL_add xs (0 + nodQ x)]; omega
theorem nodL_length : ∀ (l : List Qy) (m : Nat), m + l.length ≤ nodL l m
  | [], m => by simp [nodL]
  | x :: xs, m => by simp only [nodL]; have := nodL_length xs (m + nodQ x); have := nodQ_pos x; simp; omega

theorem samL_eq (l : List Qy) (c : Nat) (hall : ∀ k ∈ l, ∀ b, samQ k b c = true → k = b) : ∀ (l' : List Qy), l.length = l'.length → samL l l' c = true → l = l' := by
  induction l with
  | nil => intro l' h _; cases l' with
    | nil => rfl
    | cons y ys => cases h
  | cons x xs ih =>
    intro l' h hs
    cases l' with
    | nil => cases h
    | cons y ys =>
      simp only [samL, Bool.and_eq_true] at hs
      rw [hall x (by simp) y hs.1, ih (fun k hk => hall k (List.mem_cons_of_mem _ hk)) ys (by simpa using h) hs.2]
theorem samQ_eq (a : Qy) : ∀ (b : Qy) (c : Nat), samQ a b c = true → a = b := by
  refine Qy.ind (p := fun a => ∀ (b : Qy) (c : Nat), samQ a b c = true → a = b) ?_ a
  intro o n s l ih b c h
  obtain ⟨o', n', s', l'⟩ := b
  simp only [samQ, Qy.op, Qy.n, Qy.s, Qy.kids, Bool.and_eq_true, beq_iff_eq, decide_eq_true_eq] at h
  obtain ⟨⟨⟨⟨⟨_, rfl⟩, rfl⟩, rfl⟩, hl⟩, hs⟩ := h
  rw [samL_eq l (c + 1) (fun k hk b hb => ih k hk b _ hb) l' (of_decide_eq_true hl) hs]
theorem samQ_self (a : Qy) : ∀ c, depQ a c ≤ 64 → samQ a a c = true := by
  refine Qy.ind (p := fun a => ∀ c, depQ a c ≤ 64 → samQ a a c = true) ?_ a
  intro o n s l ih c h
  have h0 := depQ_ge ⟨o, n, s, l⟩ c
  have hk : ∀ k ∈ l, samQ k k (c + 1) = true := fun k hk => ih k hk (c + 1) (depQ_kid h (Nat.le_refl _) hk)
  have hL : ∀ l : List Qy, (∀ k ∈ l, samQ k k (c + 1) = true) → samL l l (c + 1) = true := by
    intro l
    induction l with
    | nil => intro _; rfl
    | cons x xs ih2 => intro hl; simp only [samL, hl x (by simp), Bool.true_and]; exact ih2 fun k hk => hl k (List.mem_cons_of_mem _ hk)
  simp only [samQ, Qy.op, Qy.n, Qy.s, Qy.kids, hL l hk, beq_self_eq_true, Bool.and_true, Bool.not_eq_true', decide_eq_false_iff_not]
  simp
  omega
/-- equal, as a Bool -/
theorem samQ_iff (a b : Qy) (h : depQ a 1 ≤ 64) : samQ a b 1 = true ↔ a = b := ⟨samQ_eq a b 1, fun e => by subst e; exact samQ_self a 1 h⟩

mutual
def leftQ : Qy → Nat → Int → Int
  | ⟨_, _, s, ks⟩, d, n => leftL ks d (n - 1 - (s.length : Int) / 20)
def leftL : List Qy → Nat → Int → Int
  | [], _, n => n
  | k :: ks, d, n => if 0 < n ∧ d < 70 then leftL ks d (leftQ k (d + 1) n) else n
end
/-- all texts within are short -/
inductive Sml : Qy → Prop
  | mk {o n : Int} {s : List UInt8} {l : List Qy} : s.length ≤ 20000 → (∀ k ∈ l, Sml k) → Sml ⟨o, n, s, l⟩
theorem leftL_stop : ∀ (l : List Qy) (d : Nat) (n : Int), ¬ (0 < n ∧ d < 70) → leftL l d n = n
  | [], d, n, _ => by simp [leftL]
  | k :: ks, d, n, h => by simp only [leftL]; rw [if_neg h]
theorem left_mono (q : Qy) : ∀ (d : Nat) (n : Int), leftQ q d n ≤ n - 1 := by
  refine Qy.ind (p := fun q => ∀ (d : Nat) (n : Int), leftQ q d n ≤ n - 1) ?_ q
  intro o n s l ih d m
  simp only [leftQ]
  have hL : ∀ (l : List Qy), (∀ k ∈ l, ∀ (d : Nat) (n : Int), leftQ k d n ≤ n - 1) → ∀ m, leftL l d m ≤ m := by
    intro l
    induction l with
    | nil => intro _ m; simp [leftL]
    | cons x xs ih2 =>
      intro hl m
      simp only [leftL]
      split
      · have h1 := ih2 (fun k hk => hl k (List.mem_cons_of_mem _ hk)) (leftQ x (d + 1) m)
        have h2 := hl x (by simp) (d + 1) m
        omega
      · omega
  have := hL l ih (m - 1 - (s.length : Int) / 20)
  omega
/-- where more than nothing is left, all nodes were counted, and all texts are short -/
theorem left_pos (q : Qy) : ∀ (d c : Nat) (n : Int), d + 1 ≤ c → depQ q (d + 1) ≤ 64 → n ≤ 300 → 0 < leftQ q d n → (nodQ q : Int) + leftQ q d n ≤ n ∧ Sml q := by
  refine Qy.ind (p := fun q => ∀ (d c : Nat) (n : Int), d + 1 ≤ c → depQ q (d + 1) ≤ 64 → n ≤ 300 → 0 < leftQ q d n → (nodQ q : Int) + leftQ q d n ≤ n ∧ Sml q) ?_ q
  intro o nn s l ih d c n hc hd hn h
  have h0 := depQ_ge ⟨o, nn, s, l⟩ (d + 1)
  simp only [leftQ, nodQ] at h ⊢
  have hL : ∀ (l : List Qy), (∀ k ∈ l, ∀ (n : Int), n ≤ 300 → 0 < leftQ k (d + 1) n → (nodQ k : Int) + leftQ k (d + 1) n ≤ n ∧ Sml k) → ∀ (n : Int) (m : Nat), n ≤ 300 → 0 < leftL l d n → (nodL l m : Int) + leftL l d n ≤ m + n ∧ ∀ k ∈ l, Sml k := by
    intro l
    induction l with
    | nil => intro _ n m _ h; simp [leftL, nodL]
    | cons x xs ih2 =>
      intro hl n m hn h
      simp only [leftL, nodL] at h ⊢
      by_cases hpos : 0 < n
      · rw [if_pos ⟨hpos, by omega⟩] at h ⊢
        have h3 : 0 < leftQ x (d + 1) n := by
          rcases Classical.em (0 < leftQ x (d + 1) n) with h | hne
          · exact h
          · rw [leftL_stop _ _ _ (by omega)] at h; exact absurd h hne
        have h4 := hl x (by simp) n hn h3
        have h5 := ih2 (fun k hk => hl k (List.mem_cons_of_mem _ hk)) (leftQ x (d + 1) n) (m + nodQ x) (by omega) h
        refine ⟨by have := h5.1; have := h4.1; omega, fun k hk => ?_⟩
        rcases List.mem_cons.1 hk with rfl | hk
        · exact h4.2
        · exact h5.2 k hk
      · rw [if_neg (by omega)] at h
        exact absurd h hpos
  have hpos : 0 < n - 1 - (s.length : Int) / 20 := by
    rcases Classical.em (0 < n - 1 - (s.length : Int) / 20) with h | hne
    · exact h
    · rw [leftL_stop _ _ _ (by omega)] at h; exact absurd h hne
  have h6 := hL l (fun k hk n hn hp => ih k hk (d + 1) (d + 2) n (by omega) (depQ_kid hd (Nat.le_refl _) hk) hn hp) (n - 1 - (s.length : Int) / 20) 1 (by omega) h
  refine ⟨by have := h6.1; omega, .mk (by omega) h6.2⟩
theorem Sml.s {q : Qy} (h : Sml q) : q.s.length ≤ 20000 := by cases h with | mk h _ => exact h
theorem Sml.kid {q k : Qy} (h : Sml q) (hk : k ∈ q.kids) : Sml k := by cases h with | mk _ h => exact h k hk

def notQ (q : Qy) : Qy := ⟨5, 0, [], [q]⟩
def leafO (o : Int) : Qy := ⟨o, 0, [], []⟩
mutual
def norB : Qy → Int → Bool
  | ⟨o, n, s, ks⟩, i =>
    if o = 5 then ks.length == 1 && (ks.headD .zero).kids.length == 0 && (ks.headD .zero).op != 1 && (ks.headD .zero).op != 2
    else if o = 3 ∨ o = 4 then !decide (o = i ∨ ks.length < 2) && norL ks [] o
    else if o = 1 ∨ o = 2 then i == 0
    else norL ks [] o
def norL : List Qy → List Qy → Int → Bool
  | [], _, _ => true
  | k :: ks, done, o => norB k o && !(done.any fun x => samQ k x 1) && norL ks (done ++ [k]) o
end

/-- with a not above leaves alone -/
inductive Lf : Qy → Prop
  | leaf {o n : Int} {s : List UInt8} : o ≠ 1 → o ≠ 2 → o ≠ 3 → o ≠ 4 → o ≠ 5 → Lf ⟨o, n, s, []⟩
  | nt {k : Qy} {o n : Int} {s : List UInt8} : o ≠ 1 → o ≠ 2 → o ≠ 3 → o ≠ 4 → o ≠ 5 → k = ⟨o, n, s, []⟩ → Lf (notQ k)
/-- a normal form -/
inductive NF : Qy → Prop
  | one : NF (leafO 1)
  | two : NF (leafO 2)
  | lf {q : Qy} : Lf q → NF q
  | many {o : Int} {l : List Qy} : o = 3 ∨ o = 4 → 2 ≤ l.length → (∀ k ∈ l, NF k) → (∀ k ∈ l, k.op ≠ 1 ∧ k.op ≠ 2 ∧ k.op ≠ o) → l.Nodup → (∀ k ∈ l, notQ k ∉ l) → NF ⟨o, 0, [], l⟩
mutual
def htQ : Qy → Nat
  | ⟨_, _, _, ks⟩ => htL ks + 1
def htL : List Qy → Nat
  | [] => 0
  | k :: ks => max (htQ k) (htL ks)
end
theorem htL_mem : ∀ (l : List Qy) (k : Qy), k ∈ l → htQ k ≤ htL l
  | x :: xs, k, hk => by
    simp only [htL]
    rcases List.mem_cons.1 hk with rfl | hk
    · omega
    · have := htL_mem xs k hk; omega
theorem htQ_kid {o n : Int} {s : List UInt8} {l : List Qy} {k : Qy} (hk : k ∈ l) : htQ k + 1 ≤ htQ ⟨o, n, s, l⟩ := by
  have := htL_mem l k hk
  simp only [htQ] at *; omega
theorem dep_ht (q : Qy) : ∀ a, depQ q a ≤ a + htQ q - 1 := by
  refine Qy.ind (p := fun q => ∀ a, depQ q a ≤ a + htQ q - 1) ?_ q
  intro o n s l ih a
  refine depQ_mk (by simp only [htQ]; omega) fun k hk => ?_
  have h1 := ih k hk (a + 1)
  have h2 := htQ_kid (o := o) (n := n) (s := s) hk
  omega
theorem sam_ht {a b : Qy} (h : htQ a ≤ 60) : samQ a b 1 = true ↔ a = b := samQ_iff a b (by have := dep_ht a 1; omega)
theorem any_sam' {l : List Qy} {q : Qy} (h : htQ q ≤ 60) : (l.any fun y => samQ q y 1) = true ↔ q ∈ l := by
  rw [List.any_eq_true]
  constructor
  · rintro ⟨x, hx, hs⟩; exact (sam_ht h).1 hs ▸ hx
  · intro hq; exact ⟨q, hq, (sam_ht h).2 rfl⟩

theorem NF.normal {x : Qy} (h : NF x) : htQ x ≤ 60 → ∀ i : Int, (x.op = 1 ∨ x.op = 2 → i = 0) → (x.op ≠ i ∨ ¬ (x.op = 3 ∨ x.op = 4)) → norB x i = true := by
  induction h with
  | one => intro _ i h1 _; simp [leafO, Qy.op] at h1; subst h1; rfl
  | two => intro _ i h1 _; simp [leafO, Qy.op] at h1; subst h1; rfl
  | lf h =>
    intro _ i _ _
    cases h with
    | leaf h1 h2 h3 h4 h5 =>
      simp only [norB]
      rw [if_neg h5, if_neg (by omega), if_neg (by omega)]
      rfl
    | nt h1 h2 h3 h4 h5 he =>
      subst he
      simp [notQ, norB, Qy.kids, Qy.op, h1, h2]
  | many ho hlen hNF hin hnd hno ih =>
    rename_i o l
    intro ht i _ hi
    have hh : ∀ k ∈ l, htQ k ≤ 60 := fun k hk => by have := htQ_kid (o := o) (n := 0) (s := []) hk; omega
    simp only [Qy.op] at hi
    simp only [norB]
    rw [if_neg (show o ≠ 5 by omega), if_pos ho]
    have hL : ∀ (l done : List Qy), (done ++ l).Nodup → (∀ k ∈ l, norB k o = true) → (∀ k ∈ done, htQ k ≤ 60) → (∀ k ∈ l, htQ k ≤ 60) → norL l done o = true := by
      intro l
      induction l with
      | nil => intro done _ _ _ _; rfl
      | cons y ys ih2 =>
        intro done hnd hb hd hl
        simp only [norL, hb y (by simp), Bool.true_and]
        have hy : y ∉ done := by
          intro hm
          rw [List.nodup_append] at hnd
          exact hnd.2.2 y hm y (by simp) rfl
        have hy2 : (done.any fun x => samQ y x 1) = false := by
          rw [← Bool.not_eq_true, any_sam' (hl y (by simp))]; exact hy
        rw [hy2, Bool.not_false, Bool.true_and]
        refine ih2 _ (by simpa using hnd) (fun k hk => hb k (List.mem_cons_of_mem _ hk)) (fun k hk => ?_) (fun k hk => hl k (List.mem_cons_of_mem _ hk))
        rcases List.mem_append.1 hk with hk | hk
        · exact hd k hk
        · simp only [List.mem_cons, List.not_mem_nil, or_false] at hk; subst hk; exact hl k (by simp)
    rw [hL l [] (by simpa using hnd) (fun k hk => ih k hk (hh k hk) o (fun h1 => absurd h1 (by have := hin k hk; omega)) (.inl (hin k hk).2.2)) (by simp) hh]
    simp
    omega
end Go.Nst
end
section
namespace Go.Nst
set_option linter.unusedVariables false
set_option linter.unusedSimpArgs false

/-- a part, and its place -/
structure Pt where
  s : List UInt8
  p : Int
abbrev tOr : List UInt8 := [111, 114]
abbrev tAnd : List UInt8 := [97, 110, 100]
abbrev tNot : List UInt8 := [110, 111, 116]
abbrev tOpn : List UInt8 := [40]
abbrev tCls : List UInt8 := [41]
/-- what comes of parsing: a query and what is left, or what is left where it can not go on -/
inductive Rs where
  | ok (q : Qy) (r : List Pt)
  | bad (r : List Pt)
def nxt : List Pt → List UInt8
  | [] => []
  | x :: _ => x.s
def svl (o : Int) : List Qy → Qy
  | [q] => q
  | l => ⟨o, 0, [], l⟩
/-- does what must all be end here? -/
def stopA (l : List Pt) : Bool := nxt l == [] || nxt l == tOr || nxt l == tCls
/-- what must all be, behind some -/
def allG (one : List Pt → Rs) : Nat → List Qy → List Pt → Rs
  | 0, acc, l => if stopA l then .ok (svl 3 acc) l else .bad l
  | f + 1, acc, l => if stopA l then .ok (svl 3 acc) l else match one (if nxt l == tAnd then l.tail else l) with
    | .bad r => .bad r
    | .ok q r => allG one f (acc ++ [q]) r
def allF (one : List Pt → Rs) (l : List Pt) : Rs := match one l with
  | .bad r => .bad r
  | .ok q r => allG one r.length [q] r
/-- of which one must be, behind some -/
def qryG (all : List Pt → Rs) : Nat → List Qy → List Pt → Rs
  | 0, acc, l => if nxt l == tOr then .bad l else .ok (svl 4 acc) l
  | f + 1, acc, l => if nxt l == tOr then match all l.tail with
    | .bad r => .bad r
    | .ok q r => qryG all f (acc ++ [q]) r else .ok (svl 4 acc) l
def qryF (one : List Pt → Rs) (l : List Pt) : Rs := match allF one l with
  | .bad r => .bad r
  | .ok q r => qryG (allF one) r.length [q] r
def oneS (tm : List UInt8 → Option Qy) (one : List Pt → Rs) (l : List Pt) : Rs :=
  if nxt l == [] || nxt l == tOr || nxt l == tAnd || nxt l == tCls then .bad l
  else if nxt l == tNot then match one l.tail with
    | .bad r => .bad r
    | .ok q r => .ok ⟨5, 0, [], [q]⟩ r
  else if nxt l == tOpn then match qryF one l.tail with
    | .bad r => .bad r
    | .ok q r => if nxt r == tCls then .ok q r.tail else .bad r
  else match tm (nxt l) with
    | some q => .ok q l.tail
    | none => .bad l
def oneF (tm : List UInt8 → Option Qy) : Nat → List Pt → Rs
  | 0, l => .bad l
  | f + 1, l => oneS tm (oneF tm f) l

/-- what is left is shorter -/
def Eats (one : List Pt → Rs) : Prop := ∀ l q r, one l = .ok q r → r.length < l.length
theorem tail_lt {l : List Pt} (h : nxt l ≠ []) : l.tail.length < l.length := by
  cases l with
  | nil => exact absurd rfl h
  | cons a t => simp
theorem allG_le {one : List Pt → Rs} (h : Eats one) : ∀ f acc l q r, allG one f acc l = .ok q r → r.length ≤ l.length
  | 0, acc, l, q, r, e => by
    simp only [allG] at e
    split at e
    · injection e with _ e; rw [e]; exact Nat.le_refl _
    · cases e
  | f + 1, acc, l, q, r, e => by
    simp only [allG] at e
    split at e
    · injection e with _ e; rw [e]; exact Nat.le_refl _
    · generalize hx : (if nxt l == tAnd then l.tail else l) = x at e
      have hxl : x.length ≤ l.length := by rw [← hx]; split <;> simp
      cases ho : one x with
      | bad r' => rw [ho] at e; cases e
      | ok q' r' =>
        rw [ho] at e
        have h1 := h _ _ _ ho
        have h2 := allG_le h f _ _ _ _ e
        omega
theorem allF_eats {one : List Pt → Rs} (h : Eats one) : Eats (allF one) := by
  intro l q r e
  unfold allF at e
  cases ho : one l with
  | bad r' => rw [ho] at e; cases e
  | ok q' r' =>
    rw [ho] at e
    have h1 := h _ _ _ ho
    have h2 := allG_le h _ _ _ _ _ e
    omega
theorem qryG_le {all : List Pt → Rs} (h : Eats all) : ∀ f acc l q r, qryG all f acc l = .ok q r → r.length ≤ l.length
  | 0, acc, l, q, r, e => by
    simp only [qryG] at e
    split at e
    · cases e
    · injection e with _ e; rw [e]; exact Nat.le_refl _
  | f + 1, acc, l, q, r, e => by
    simp only [qryG] at e
    split at e
    · cases ho : all l.tail with
      | bad r' => rw [ho] at e; cases e
      | ok q' r' =>
        rw [ho] at e
        have h1 := h _ _ _ ho
        have h2 := qryG_le h f _ _ _ _ e
        have h3 : l.tail.length ≤ l.length := by simp
        omega
    · injection e with _ e; rw [e]; exact Nat.le_refl _
theorem qryF_eats {one : List Pt → Rs} (h : Eats one) : Eats (qryF one) := by
  intro l q r e
  unfold qryF at e
  cases ho : allF one l with
  | bad r' => rw [ho] at e; cases e
  | ok q' r' =>
    rw [ho] at e
    have h1 := allF_eats h _ _ _ ho
    have h2 := qryG_le (allF_eats h) _ _ _ _ _ e
    omega
theorem oneF_eats (tm : List UInt8 → Option Qy) : ∀ f, Eats (oneF tm f)
  | 0 => by intro l q r e; cases e
  | f + 1 => by
    intro l q r e
    have ih := oneF_eats tm f
    simp only [oneF, oneS] at e
    split at e
    · cases e
    · rename_i h0
      have hne : nxt l ≠ [] := by
        intro hh
        rw [hh] at h0
        exact h0 (by simp)
      have ht := tail_lt hne
      split at e
      · cases ho : oneF tm f l.tail with
        | bad r' => rw [ho] at e; cases e
        | ok q' r' =>
          rw [ho] at e
          injection e with _ e
          have h1 := ih _ _ _ ho
          subst e
          omega
      · split at e
        · cases ho : qryF (oneF tm f) l.tail with
          | bad r' => rw [ho] at e; cases e
          | ok q' r' =>
            rw [ho] at e
            have h1 := qryF_eats ih _ _ _ ho
            simp only at e
            split at e
            · injection e with _ e
              subst e
              have : r'.tail.length ≤ r'.length := by simp
              omega
            · cases e
        · split at e
          · injection e with _ e
            subst e
            exact ht
          · cases e

def stopQ (l : List Pt) : Bool := nxt l == [] || nxt l == tCls
theorem nxt_app {l : List Pt} (h : l ≠ []) (t : List Pt) : nxt (l ++ t) = nxt l := by
  cases l with
  | nil => exact absurd rfl h
  | cons a x => rfl
theorem tail_app {l : List Pt} (h : l ≠ []) (t : List Pt) : (l ++ t).tail = l.tail ++ t := by
  cases l with
  | nil => exact absurd rfl h
  | cons a x => rfl
theorem ne_of_nxt {l : List Pt} (h : nxt l ≠ []) : l ≠ [] := by rintro rfl; exact h rfl
theorem allG_stop {one : List Pt → Rs} {f : Nat} {acc : List Qy} {l : List Pt} (h : stopA l = true) : allG one f acc l = .ok (svl 3 acc) l := by
  cases f <;> simp [allG, h]
theorem qryG_stop {all : List Pt → Rs} {f : Nat} {acc : List Qy} {l : List Pt} (h : (nxt l == tOr) = false) : qryG all f acc l = .ok (svl 4 acc) l := by
  cases f <;> simp only [qryG, h] <;> rfl
/-- one, whatever stands behind -/
def Mores (one one' : List Pt → Rs) (n : Nat) (t : List Pt) : Prop := ∀ l q r, l.length ≤ n → one l = .ok q r → one' (l ++ t) = .ok q (r ++ t)
/-- all, if it stops there -/
def MoresA (one one' : List Pt → Rs) (n : Nat) (st : List Pt → Bool) (t : List Pt) : Prop := ∀ l q r, l.length ≤ n → one l = .ok q r → (r ≠ [] ∨ st t = true) → one' (l ++ t) = .ok q (r ++ t)
theorem allG_more {one one' : List Pt → Rs} {n : Nat} {t : List Pt} (he : Eats one) (h : Mores one one' n t) : ∀ f acc l q r f', l.length ≤ n → l.length ≤ f → (l ++ t).length ≤ f' → allG one f acc l = .ok q r → (r ≠ [] ∨ stopA t = true) → allG one' f' acc (l ++ t) = .ok q (r ++ t) := by
  intro f
  induction f with
  | zero =>
    intro acc l q r f' hn hl hf e hs
    obtain rfl : l = [] := List.eq_nil_of_length_eq_zero (by omega)
    rw [allG_stop (by rfl)] at e
    injection e with e1 e2
    subst e1
    subst e2
    simp only [ne_eq, not_true_eq_false, false_or] at hs
    rw [List.nil_append, allG_stop hs]
  | succ f ih =>
    intro acc l q r f' hn hl hf e hs
    by_cases h0 : stopA l = true
    · rw [allG_stop h0] at e
      injection e with e1 e2
      subst e1
      subst e2
      by_cases hl0 : l = []
      · subst hl0
        simp only [ne_eq, not_true_eq_false, false_or] at hs
        rw [List.nil_append, allG_stop hs]
      · have : stopA (l ++ t) = true := by unfold stopA at h0 ⊢; rw [nxt_app hl0]; exact h0
        rw [allG_stop this]
    · have hne : nxt l ≠ [] := by
        intro hh; apply h0; unfold stopA; rw [hh]; rfl
      have hl0 := ne_of_nxt hne
      have h0t : stopA (l ++ t) = false := by unfold stopA at h0 ⊢; rw [nxt_app hl0]; simpa using h0
      have h0f : stopA l = false := by simpa using h0
      simp only [allG, h0f] at e
      rw [if_neg (by decide)] at e
      cases f' with
      | zero =>
        rw [List.length_append] at hf
        have : 0 < l.length := by cases l with | nil => exact absurd rfl hl0 | cons a b => simp
        omega
      | succ f' =>
      simp only [allG, h0t]
      rw [if_neg (by decide)]
      have hx : (if (nxt (l ++ t) == tAnd) = true then (l ++ t).tail else l ++ t) = (if (nxt l == tAnd) = true then l.tail else l) ++ t := by
        rw [nxt_app hl0]
        split
        · exact tail_app hl0 t
        · rfl
      rw [hx]
      generalize hxx : (if (nxt l == tAnd) = true then l.tail else l) = x at *
      have hxl : x.length ≤ l.length := by rw [← hxx]; split <;> simp
      cases ho : one x with
      | bad r' => rw [ho] at e; cases e
      | ok q' r' =>
        rw [ho] at e
        have hr := he _ _ _ ho
        rw [h x q' r' (by omega) ho]
        refine ih _ _ _ _ _ (by omega) (by omega) ?_ e hs
        rw [List.length_append] at hf ⊢
        omega
theorem allF_more {one one' : List Pt → Rs} {n : Nat} {t : List Pt} (he : Eats one) (h : Mores one one' n t) : MoresA (allF one) (allF one') n stopA t := by
  intro l q r hn e hs
  unfold allF at e ⊢
  cases ho : one l with
  | bad r' => rw [ho] at e; cases e
  | ok q' r' =>
    rw [ho] at e
    have hr := he _ _ _ ho
    rw [h l q' r' hn ho]
    exact allG_more he h _ _ _ _ _ _ (by omega) (Nat.le_refl _) (Nat.le_refl _) e hs
theorem stopQ_A {t : List Pt} (h : stopQ t = true) : stopA t = true := by
  unfold stopQ at h
  unfold stopA
  simp only [Bool.or_eq_true] at h ⊢
  rcases h with h | h
  · exact .inl (.inl h)
  · exact .inr h
theorem qryG_more {all all' : List Pt → Rs} {n : Nat} {t : List Pt} (he : Eats all) (h : MoresA all all' n stopA t) : ∀ f acc l q r f', l.length ≤ n → l.length ≤ f → (l ++ t).length ≤ f' → qryG all f acc l = .ok q r → (r ≠ [] ∨ stopQ t = true) → qryG all' f' acc (l ++ t) = .ok q (r ++ t) := by
  intro f
  induction f with
  | zero =>
    intro acc l q r f' hn hl hf e hs
    obtain rfl : l = [] := List.eq_nil_of_length_eq_zero (by omega)
    rw [qryG_stop (by rfl)] at e
    injection e with e1 e2
    subst e1
    subst e2
    simp only [ne_eq, not_true_eq_false, false_or] at hs
    rw [List.nil_append, qryG_stop]
    unfold stopQ at hs
    simp only [Bool.or_eq_true, beq_iff_eq] at hs
    rcases hs with h | h <;> rw [h] <;> rfl
  | succ f ih =>
    intro acc l q r f' hn hl hf e hs
    by_cases h0 : (nxt l == tOr) = true
    · have hne : nxt l ≠ [] := by rw [beq_iff_eq.1 h0]; decide
      have hl0 := ne_of_nxt hne
      simp only [qryG, h0, if_true] at e
      cases f' with
      | zero =>
        rw [List.length_append] at hf
        have : 0 < l.length := by cases l with | nil => exact absurd rfl hl0 | cons a b => simp
        omega
      | succ f' =>
      simp only [qryG, nxt_app hl0, h0, if_true, tail_app hl0]
      have ht := tail_lt hne
      cases ho : all l.tail with
      | bad r' => rw [ho] at e; cases e
      | ok q' r' =>
        rw [ho] at e
        have hr := he _ _ _ ho
        have hs' : r' ≠ [] ∨ stopA t = true := by
          by_cases hr0 : r' = []
          · subst hr0
            have e : qryG all f (acc ++ [q']) [] = .ok q r := e
            rw [qryG_stop (by rfl)] at e
            injection e with _ e2
            subst e2
            simp only [ne_eq, not_true_eq_false, false_or] at hs
            exact .inr (stopQ_A hs)
          · exact .inl hr0
        rw [h _ q' r' (by omega) ho hs']
        refine ih _ _ _ _ _ (by omega) (by omega) ?_ e hs
        rw [List.length_append] at hf ⊢
        omega
    · have h0f : (nxt l == tOr) = false := by simpa using h0
      rw [qryG_stop h0f] at e
      injection e with e1 e2
      subst e1
      subst e2
      by_cases hl0 : l = []
      · subst hl0
        simp only [ne_eq, not_true_eq_false, false_or] at hs
        rw [List.nil_append, qryG_stop]
        unfold stopQ at hs
        simp only [Bool.or_eq_true, beq_iff_eq] at hs
        rcases hs with h | h <;> rw [h] <;> rfl
      · rw [qryG_stop (by rw [nxt_app hl0]; exact h0f)]
theorem qryF_more {one one' : List Pt → Rs} {n : Nat} {t : List Pt} (he : Eats one) (h : Mores one one' n t) : MoresA (qryF one) (qryF one') n stopQ t := by
  intro l q r hn e hs
  unfold qryF at e ⊢
  cases ho : allF one l with
  | bad r' => rw [ho] at e; cases e
  | ok q' r' =>
    rw [ho] at e
    have hr := allF_eats he _ _ _ ho
    have hs' : r' ≠ [] ∨ stopA t = true := by
      by_cases hr0 : r' = []
      · subst hr0
        have e : qryG (allF one) ([] : List Pt).length [q'] [] = .ok q r := e
        rw [qryG_stop (by rfl)] at e
        injection e with _ e2
        subst e2
        simp only [ne_eq, not_true_eq_false, false_or] at hs
        exact .inr (stopQ_A hs)
      · exact .inl hr0
    rw [allF_more he h l q' r' hn ho hs']
    exact qryG_more (allF_eats he) (allF_more he h) _ _ _ _ _ _ (by omega) (Nat.le_refl _) (Nat.le_refl _) e hs
theorem oneF_more (tm : List UInt8 → Option Qy) (t : List Pt) : ∀ n f f' : Nat, n ≤ f → n + t.length ≤ f' → Mores (oneF tm f) (oneF tm f') n t := by
  intro n
  induction n with
  | zero =>
    intro f f' _ _ l q r hl e
    obtain rfl : l = [] := List.eq_nil_of_length_eq_zero (by omega)
    have := oneF_eats tm f _ _ _ e
    simp at this
  | succ n ih =>
    intro f f' hf hf' l q r hl e
    cases f with
    | zero => omega
    | succ f =>
    cases f' with
    | zero => omega
    | succ f' =>
    have he := oneF_eats tm f
    have ihn := ih f f' (by omega) (by omega)
    have hne : nxt l ≠ [] := by
      intro hh
      simp only [oneF, oneS, hh] at e
      rw [if_pos (by rfl)] at e
      cases e
    have hl0 := ne_of_nxt hne
    have ht := tail_lt hne
    simp only [oneF, oneS, nxt_app hl0, tail_app hl0] at e ⊢
    split
    · rename_i h0; rw [if_pos h0] at e; cases e
    · rename_i h0
      rw [if_neg h0] at e
      split
      · rename_i h1
        rw [if_pos h1] at e
        cases ho : oneF tm f l.tail with
        | bad r' => rw [ho] at e; cases e
        | ok q' r' =>
          rw [ho] at e
          rw [ihn _ _ _ (by omega) ho]
          injection e with e1 e2
          subst e1
          subst e2
          rfl
      · rename_i h1
        rw [if_neg h1] at e
        split
        · rename_i h2
          rw [if_pos h2] at e
          cases ho : qryF (oneF tm f) l.tail with
          | bad r' => rw [ho] at e; cases e
          | ok q' r' =>
            rw [ho] at e
            simp only at e
            split at e
            · rename_i h3
              have hr0 : r' ≠ [] := ne_of_nxt (by rw [beq_iff_eq.1 h3]; decide)
              rw [qryF_more he ihn _ _ _ (by omega) ho (.inl hr0)]
              simp only [nxt_app hr0, h3, if_true, tail_app hr0]
              injection e with e1 e2
              subst e1
              subst e2
              rfl
            · cases e
        · rename_i h2
          rw [if_neg h2] at e
          split at e
          · rename_i q' hq
            injection e with e1 e2
            subst e1
            subst e2
            first | rfl | rw [hq]
          · cases e
end Go.Nst
end
