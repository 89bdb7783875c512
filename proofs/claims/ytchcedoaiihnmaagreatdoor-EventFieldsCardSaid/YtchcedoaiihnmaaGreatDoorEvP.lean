/-
  Events shown, in plain Lean: texts between two ", numbers; unlike events are shown unlike.
-/
import Derived.Test.YtchcedoaiihnmaaGreatDoorBas
import Derived.Lib.Replace
import Derived.Lib.ItoaNum
import Derived.Lib.ItoaMem
import Derived.Lib.Join
namespace Go.Proofs.YtchcedoaiihnmaaGreatDoor
open Go.RowKit Go.Nst
set_option maxRecDepth 100000
set_option linter.unusedVariables false
set_option linter.unusedSimpArgs false

theorem idx_cons (c b : UInt8) (t : List UInt8) (h : c ≠ b) : Lib.index (c :: t) [b] = if Lib.index t [b] = -1 then -1 else Lib.index t [b] + 1 := by
  conv => lhs; unfold Lib.index
  have : List.isPrefixOf [b] (c :: t) = false := by simp [List.isPrefixOf]; exact fun e => h e.symm
  rw [this]
  simp only [Bool.false_eq_true, if_false, beq_iff_eq]
theorem idx_hit (b : UInt8) (t : List UInt8) : Lib.index (b :: t) [b] = 0 := by
  unfold Lib.index
  have : List.isPrefixOf [b] (b :: t) = true := by simp [List.isPrefixOf]
  rw [if_pos this]
theorem replaceK_one (b : UInt8) (new : List UInt8) : ∀ l : List UInt8, Lib.replaceK [b] new (Lib.count l [b]) l = l.flatMap fun c => if c = b then new else [c]
  | [] => by
    have h : Lib.index [] [b] = -1 := rfl
    rw [Lib.count_miss h]
    rfl
  | c :: t => by
    have ih := replaceK_one b new t
    by_cases hc : c = b
    · subst hc
      have h := idx_hit c t
      rw [Lib.count_hit (s := c :: t) (sub := [c]) (i := 0) (by simp) h]
      simp only [Nat.zero_add, List.length_singleton, List.drop_succ_cons, List.drop_zero]
      rw [Nat.add_comm 1, Lib.replaceK_hit [c] new _ (c :: t) 0 h]
      simp only [List.take_zero, List.nil_append, Nat.zero_add, List.length_singleton, List.drop_succ_cons, List.drop_zero, List.flatMap_cons, if_true, ih]
    · have hx := idx_cons c b t hc
      rcases Lib.index_spec t [b] with ⟨h1, _⟩ | ⟨i, h1, h2, _⟩
      · rw [h1, if_pos rfl] at hx
        rw [Lib.count_miss hx]
        rw [Lib.count_miss h1] at ih
        simp only [Lib.replaceK] at ih ⊢
        rw [List.flatMap_cons, if_neg hc, ← ih]
        rfl
      · rw [h1, if_neg (by omega)] at hx
        have hx2 : Lib.index (c :: t) [b] = ((i + 1 : Nat) : Int) := by rw [hx]; rfl
        have hct := Lib.count_hit (s := t) (sub := [b]) (i := i) (by simp) h1
        have hcc := Lib.count_hit (s := c :: t) (sub := [b]) (i := i + 1) (by simp) hx2
        simp only [List.length_singleton] at hct hcc
        rw [hct, Nat.add_comm 1, Lib.replaceK_hit [b] new _ t i h1] at ih
        rw [hcc, Nat.add_comm 1, Lib.replaceK_hit [b] new _ (c :: t) (i + 1) hx2, List.flatMap_cons, if_neg hc, ← ih]
        simp
theorem replace_one (b : UInt8) (new : List UInt8) (hne : ([b] == new) = false) (l : List UInt8) : Lib.replaceAll l [b] new = l.flatMap fun c => if c = b then new else [c] := by
  unfold Lib.replaceAll Lib.replace Lib.replaceNum
  rw [hne, if_neg (by simp), if_pos (by left; decide)]
  exact replaceK_one b new l

/-- a sign between two " -/
def quoteB (c : UInt8) : List UInt8 := if c = 92 then [92, 92] else if c = 34 then [92, 34] else [c]
def quoteL (l : List UInt8) : List UInt8 := 34 :: (l.flatMap quoteB ++ [34])
theorem quote_two (l : List UInt8) : Lib.replaceAll (Lib.replaceAll l [92] [92, 92]) [34] [92, 34] = l.flatMap quoteB := by
  rw [replace_one 92 _ (by decide), replace_one 34 _ (by decide), List.flatMap_assoc]
  congr 1
  funext c
  unfold quoteB
  by_cases h1 : c = 92
  · subst h1; rfl
  · by_cases h2 : c = 34
    · subst h2; rfl
    · simp [h1, h2]
theorem quoteB_len (c : UInt8) : (quoteB c).length ≤ 2 := by unfold quoteB; split; simp; split <;> simp
theorem quoteF_len : ∀ l : List UInt8, (l.flatMap quoteB).length ≤ 2 * l.length
  | [] => by simp
  | c :: t => by
    rw [List.flatMap_cons, List.length_append, List.length_cons]
    have h1 := quoteB_len c
    have h2 := quoteF_len t
    omega
theorem quoteL_len (l : List UInt8) : (quoteL l).length ≤ 2 * l.length + 2 := by
  have h := quoteF_len l
  unfold quoteL
  simp only [List.length_cons, List.length_append, List.length_nil]
  omega
def showE (nm : List UInt8) (a b n : Int) (s t u : List UInt8) : List UInt8 := nm ++ 32 :: (Lib.itoa a ++ 32 :: (Lib.itoa b ++ 32 :: (Lib.itoa n ++ 32 :: (quoteL s ++ 32 :: (quoteL t ++ 32 :: quoteL u)))))
theorem show_join (nm : List UInt8) (a b n : Int) (s t u : List UInt8) : Lib.join [nm, Lib.itoa a, Lib.itoa b, Lib.itoa n, quoteL s, quoteL t, quoteL u] [32] = showE nm a b n s t u := by
  unfold Lib.join showE
  simp [List.intercalate, List.intersperse]

/-! ### unlike events are shown unlike -/
theorem cut_32 : ∀ {x y r q : List UInt8}, 32 ∉ x → 32 ∉ y → x ++ 32 :: r = y ++ 32 :: q → x = y ∧ r = q
  | [], [], r, q, _, _, h => by simpa using h
  | [], c :: y, r, q, _, hy, h => by
    simp only [List.nil_append, List.cons_append, List.cons.injEq] at h
    exact absurd (by rw [← h.1]; simp) hy
  | c :: x, [], r, q, hx, _, h => by
    simp only [List.nil_append, List.cons_append, List.cons.injEq] at h
    exact absurd (by rw [h.1]; simp) hx
  | c :: x, d :: y, r, q, hx, hy, h => by
    simp only [List.cons_append, List.cons.injEq] at h
    obtain ⟨h1, h2⟩ := cut_32 (x := x) (y := y) (fun e => hx (by simp [e])) (fun e => hy (by simp [e])) h.2
    exact ⟨by rw [h.1, h1], h2⟩
theorem dec_ge (u : Nat) : ∀ c ∈ Lib.decDigits u, 48 ≤ c.toNat := by
  induction u using Nat.strongRecOn with
  | _ u ih =>
    intro c hc
    rw [Lib.decDigits] at hc
    split at hc
    · simp at hc
      rw [hc]
      simp
      omega
    · rcases List.mem_append.1 hc with hc | hc
      · exact ih (u / 10) (by omega) c hc
      · simp at hc
        rw [hc]
        simp
        omega
def valD (l : List UInt8) : Nat := l.foldl (fun n c => 10 * n + (c.toNat - 48)) 0
theorem val_dec (u : Nat) : valD (Lib.decDigits u) = u := by
  induction u using Nat.strongRecOn with
  | _ u ih =>
    rw [Lib.decDigits]
    split
    · simp [valD]
      omega
    · have h := ih (u / 10) (by omega)
      unfold valD at h ⊢
      rw [List.foldl_append, h]
      simp
      omega
theorem dec_inj {u v : Nat} (h : Lib.decDigits u = Lib.decDigits v) : u = v := by rw [← val_dec u, h, val_dec]
theorem dec_not {u v : Nat} (h : Lib.decDigits u = 45 :: Lib.decDigits v) : False := by
  have := dec_ge u 45 (by rw [h]; simp)
  simp at this
theorem itoa_inj {a b : Int} (h : Lib.itoa a = Lib.itoa b) : a = b := by
  unfold Lib.itoa at h
  split at h <;> split at h
  · injection h with _ h
    have := dec_inj h
    omega
  · exact (dec_not h.symm).elim
  · exact (dec_not h).elim
  · have := dec_inj h
    omega
theorem itoa_32 (a : Int) : 32 ∉ Lib.itoa a := by
  unfold Lib.itoa
  intro h
  split at h
  · rcases List.mem_cons.1 h with h | h
    · simp at h
    · have := dec_ge _ _ h
      simp at this
  · have := dec_ge _ _ h
    simp at this
theorem quote_cut : ∀ {s t R Q : List UInt8}, s.flatMap quoteB ++ 34 :: R = t.flatMap quoteB ++ 34 :: Q → s = t ∧ R = Q
  | [], [], R, Q, h => by simpa using h
  | [], d :: t, R, Q, h => by
    exfalso
    rw [List.flatMap_cons] at h
    unfold quoteB at h
    split at h
    · simp at h
    · split at h
      · simp at h
      · simp at h
        exact absurd h.1.symm (by assumption)
  | c :: s, [], R, Q, h => by
    exfalso
    rw [List.flatMap_cons] at h
    unfold quoteB at h
    split at h
    · simp at h
    · split at h
      · simp at h
      · simp at h
        exact absurd h.1 (by assumption)
  | c :: s, d :: t, R, Q, h => by
    rw [List.flatMap_cons, List.flatMap_cons, List.append_assoc, List.append_assoc] at h
    have key : c = d ∧ s.flatMap quoteB ++ 34 :: R = t.flatMap quoteB ++ 34 :: Q := by
      by_cases c1 : c = 92
      · subst c1
        by_cases d1 : d = 92
        · subst d1
          simpa [quoteB] using h
        · by_cases d2 : d = 34
          · subst d2
            simp [quoteB] at h
          · simp [quoteB, d1, d2] at h
            exact absurd h.1.symm d1
      · by_cases c2 : c = 34
        · subst c2
          by_cases d1 : d = 92
          · subst d1
            simp [quoteB] at h
          · by_cases d2 : d = 34
            · subst d2
              simpa [quoteB] using h
            · simp [quoteB, d1, d2] at h
              exact absurd h.1.symm d1
        · by_cases d1 : d = 92
          · subst d1
            simp [quoteB, c1, c2] at h
          · by_cases d2 : d = 34
            · subst d2
              simp [quoteB, c1, c2] at h
            · simpa [quoteB, c1, c2, d1, d2] using h
    obtain ⟨h1, h2⟩ := quote_cut key.2
    exact ⟨by rw [key.1, h1], h2⟩
theorem quoteL_cut {s t R Q : List UInt8} (h : quoteL s ++ R = quoteL t ++ Q) : s = t ∧ R = Q := by
  unfold quoteL at h
  simp only [List.cons_append, List.cons.injEq, true_and, List.append_assoc, List.nil_append] at h
  exact quote_cut h
theorem showE_inj {nm nm' : List UInt8} {a b n a' b' n' : Int} {s t u s' t' u' : List UInt8} (h1 : 32 ∉ nm) (h2 : 32 ∉ nm') (h : showE nm a b n s t u = showE nm' a' b' n' s' t' u') : nm = nm' ∧ a = a' ∧ b = b' ∧ n = n' ∧ s = s' ∧ t = t' ∧ u = u' := by
  unfold showE at h
  obtain ⟨g1, h⟩ := cut_32 h1 h2 h
  obtain ⟨g2, h⟩ := cut_32 (itoa_32 _) (itoa_32 _) h
  obtain ⟨g3, h⟩ := cut_32 (itoa_32 _) (itoa_32 _) h
  obtain ⟨g4, h⟩ := cut_32 (itoa_32 _) (itoa_32 _) h
  obtain ⟨g5, h⟩ := quoteL_cut h
  injection h with _ h
  obtain ⟨g6, h⟩ := quoteL_cut h
  injection h with _ h
  obtain ⟨g7, _⟩ := quoteL_cut (s := u) (t := u') (R := []) (Q := []) (by rw [h])
  exact ⟨g1, itoa_inj g2, itoa_inj g3, itoa_inj g4, g5, g6, g7⟩
def showK (k a b n : Int) (s t u : List UInt8) (nm : List UInt8) : List UInt8 := if nm = [] then [63] else showE nm a b n s t u
end Go.Proofs.YtchcedoaiihnmaaGreatDoor
