/-
  add: a token more.
-/
import Derived.Test.YtnagckdaleafdaaXmQ
namespace Go.Proofs.Ytnagckdaleafdaa
open Go.RowKit Go.Nst
set_option maxRecDepth 100000
set_option linter.unusedVariables false
set_option linter.unusedSimpArgs false

section
variable {α : Type} {sz : Nat} {P : World → (Nat → Prop) → Array Value → α → Prop} {w w' : World} {S S' : Nat → Prop} {A : Option Addr} {k n c base : Nat} {l : List α} {e : TypeId}
/-- append, and where the row lies behind it -/
theorem wp_appY {T : TypeId} {z : Value} {bytes : Nat} (hP : ElP sz P) (hI : Info Try.prog T e z sz bytes) {o : Oper} {a : Act} {K : Act → World → Prop} {Q : Exit → Act → World → Prop} {s x : Operand}
    (ho : o.op = .call { callee := .builtin .append, args := #[s, x], argTypes := #[T, T] })
    {A0 : Option Addr} {c0 : Nat} {L : List α} (hs : a.eval s = .slice A0 n c0) (hown : RwO e sz P w base S A0 n c0 L)
    {m c : Nat} {l2 : List α} (hx : a.eval x = .slice A m c) (hr : RwR sz P w (fun b => S b ∧ some b ≠ (Value.slice A0 n c0).ownBlock) A m l2)
    (hn : n + m ≤ 4000000) (hby : bytes ≤ 1000000) (hbase : base ≤ w.heap.size)
    (h : ∀ A' c' w', RwO e sz P w' base S A' (n + m) c' (L ++ l2) → Below base w w' → w.grownBy w' (Value.slice A0 n c0).ownBlock → ((Value.slice A' (n + m) c').ownBlock = (Value.slice A0 n c0).ownBlock ∨ (Value.slice A' (n + m) c').ownBlock = some w.heap.size) → K (a.put o.dst (.slice A' (n + m) c')) w') : o.wp Try.prog a w K Q := by
  obtain ⟨xs, h1, h2, V, h3, h4⟩ := hown
  obtain ⟨V2, hR, hV4, hone, hq2⟩ := hr.reads hP
  have hl2 := hr.1
  have hbb : (n + m) * bytes ≤ 140737488355328 := Nat.le_trans (Nat.mul_le_mul hn hby) (by decide)
  refine wp_app w hI ho hs h1 hx hR hone (by unfold maxLen; omega) hbb hbase fun A' c' w' k1 k2 k3 => h A' c' w' ?_ ((Below.refl _ _).grown k2 hbase (fun k hk => (World.ownsRow.lt h1 k hk).1)) k2 k3
  have hkeep : ∀ b, (S b ∧ some b ≠ (Value.slice A0 n c0).ownBlock) → b < w.heap.size → w'.heap[b]? = w.heap[b]? := fun b hb hlt => k2.block b hlt hb.2
  have hkeep2 : ∀ b, (S b ∧ some b ≠ (Value.slice A0 n c0).ownBlock) → b < w.heap.size → (S b ∧ some b ≠ (Value.slice A' (n + m) c').ownBlock) := fun b hb hlt => by
    refine ⟨hb.1, ?_⟩
    rcases k3 with e | e
    · rw [e]; exact hb.2
    · rw [e]; intro he; injection he with he; omega
  have hlen := h1.1
  refine ⟨_, k1, by rw [List.length_append]; omega, fun i => if i < n then V i else V2 (i - n), fun i j u hi hu => ?_, fun i q hi => ?_⟩
  · by_cases hin : i < n
    · simp only [if_pos hin] at hu
      have := h3 i j u hin hu
      rw [List.getElem?_append_left (List.getElem?_eq_some_iff.1 this).1]
      exact this
    · simp only [if_neg hin] at hu
      have hj : j < sz := by
        rcases Nat.lt_or_ge j sz with h | h
        · exact h
        · rw [Array.getElem?_eq_none (by rw [hV4 _ (by omega)]; exact h)] at hu; cases hu
      obtain ⟨d, rfl⟩ : ∃ d, i = n + d := ⟨i - n, by omega⟩
      rw [Nat.add_sub_cancel_left] at hu
      have hm : (n + d) * sz = n * sz + d * sz := Nat.add_mul _ _ _
      rw [List.getElem?_append_right (by omega), hlen, show (n + d) * sz + j - n * sz = d * sz + j by omega, rowZ_get V2 m hV4 _ _ (by omega) hj]
      exact hu
  · by_cases hin : i < n
    · rw [List.getElem?_append_left (by omega)] at hi
      simp only [if_pos hin]
      exact hP.keep hkeep k2.size hkeep2 (h4 i q hi)
    · rw [List.getElem?_append_right (by omega), h2] at hi
      simp only [if_neg hin]
      exact hP.keep hkeep k2.size hkeep2 (hq2 _ q hi)
theorem wpList_appY {T : TypeId} {z : Value} {bytes : Nat} (hP : ElP sz P) (hI : Info Try.prog T e z sz bytes) {ops : Array Oper} {rest : List Oper} {o : Oper} {a : Act} {Q : Exit → Act → World → Prop} {s x : Operand} (hgd : o.guard = none)
    (ho : o.op = .call { callee := .builtin .append, args := #[s, x], argTypes := #[T, T] })
    {A0 : Option Addr} {c0 : Nat} {L : List α} (hs : a.eval s = .slice A0 n c0) (hown : RwO e sz P w base S A0 n c0 L)
    {m c : Nat} {l2 : List α} (hx : a.eval x = .slice A m c) (hr : RwR sz P w (fun b => S b ∧ some b ≠ (Value.slice A0 n c0).ownBlock) A m l2)
    (hn : n + m ≤ 4000000) (hby : bytes ≤ 1000000) (hbase : base ≤ w.heap.size)
    (h : ∀ A' c' w', RwO e sz P w' base S A' (n + m) c' (L ++ l2) → Below base w w' → w.grownBy w' (Value.slice A0 n c0).ownBlock → ((Value.slice A' (n + m) c').ownBlock = (Value.slice A0 n c0).ownBlock ∨ (Value.slice A' (n + m) c').ownBlock = some w.heap.size) → wpList Try.prog ops Q rest (a.put o.dst (.slice A' (n + m) c')) w') : wpList Try.prog ops Q (o :: rest) a w :=
  wpList_plain hgd fun _ hK => wp_appY hP hI ho hs hown hx hr hn hby hbase fun A' c' w' h1 h2 h3 h4 => hK _ _ (h A' c' w' h1 h2 h3 h4)
end
/-- the row behind a token more -/
def RetAdd (w : World) (base : Nat) (S : Nat → Prop) (own : Option Nat) (L : List Xtk) (e : Ending) (w' : World) : Prop :=
  ∃ A n c, e = .returned (.slice A n c) ∧ XtO w' base S A n c L ∧ Below base w w' ∧ w.grownBy w' own ∧ (∀ b, some b = (Value.slice A n c).ownBlock → some b = own ∨ w.heap.size ≤ b)
theorem addT_app {L : List Xtk} {t : Xtk} (h : t.kd ≠ 3 ∨ (t.tx ≠ [] ∧ ∀ u ∈ L.getLast?, u.kd ≠ 3)) : addT L t = L ++ [t] := by
  unfold addT
  by_cases h3 : t.kd = 3
  · rw [if_pos h3]
    rcases h with h | ⟨h1, h2⟩
    · exact absurd h3 h
    · rw [if_neg h1]
      cases hl : L.getLast? with
      | none => rfl
      | some u => simp only; rw [if_neg (h2 u (by rw [hl]; simp))]
  · rw [if_neg h3]
theorem addT_set {L : List Xtk} {t u : Xtk} {m : Nat} (h3 : t.kd = 3) (h : t.tx ≠ []) (hm : L.length = m + 1) (hu : L[m]? = some u) (hk : u.kd = 3) : addT L t = L.set m ⟨u.kd, u.nm, u.ats, u.tx ++ t.tx⟩ := by
  rcases List.eq_nil_or_concat L with rfl | ⟨L', v, rfl⟩
  · cases hm
  · rw [List.concat_eq_append] at *
    have hl : L'.length = m := by simpa using hm
    subst hl
    have : v = u := by simpa using hu
    subst this
    unfold addT
    rw [if_pos h3, if_neg h, List.getLast?_concat]
    simp only
    rw [if_pos hk, List.dropLast_concat]
    simp
theorem xtP_set {w : World} {S : Nat → Prop} {v : Array Value} {x : Xtk} {y : List UInt8} (h : XtP w S v x) (hy : y.length ≤ 9223372036854775807) : XtP w S (v.setIfInBounds 3 (.string ⟨y.toArray⟩)) ⟨x.kd, x.nm, x.ats, y⟩ := by
  obtain ⟨A, c, rfl, h1, h2, h3, h4, h5, h6⟩ := h
  exact ⟨A, c, rfl, h1, h2, hy, h4, h5, h6⟩
section
variable (L : List Xtk) (A : Option Addr) (n c base : Nat) (S : Nat → Prop) (t : Xtk) (B : Option Addr) (d : Nat) (w : World)
set_option maxHeartbeats 2000000 in
/-- appended -/
theorem add8_app (hO : XtO w base S A n c L) (hb : base ≤ w.heap.size) (hn : n ≤ 100000) (ht : XtP w (fun b => S b ∧ some b ≠ (Value.slice A n c).ownBlock) (xtV t B t.ats.length d) t)
    (h : t.kd ≠ 3 ∨ (t.kd = 3 ∧ t.tx ≠ [] ∧ ∀ u ∈ L.getLast?, u.kd ≠ 3)) :
    Calls Try.prog 19 #[.slice A n c, .agg (xtV t B t.ats.length d)] w (RetAdd w base S (Value.slice A n c).ownBlock (addT L t)) := by
  have hcap := hO.cap
  have hLn := hO.len
  have e : addT L t = L ++ [t] := addT_app (h.imp id (fun h => h.2))
  have hlast : ∀ m, n = m + 1 → ∃ (x : Xtk) (g : Nat), L[m]? = some x ∧ A = some ⟨g, 0, none⟩ ∧ g < w.heap.size ∧ w.cell? ⟨g, m * 4, none⟩ = some (.int .i64 x.kd) := by
    intro m hm
    obtain ⟨x, v, g, h1, h2, h3, h4, h5, h6, h7⟩ := hO.get (show m < n by omega)
    obtain ⟨B', d', rfl, _⟩ := h6
    exact ⟨x, g, h1, h2, h4, h7 0 _ rfl⟩
  have hkd := ht.elim fun _ h => h.elim fun _ h => h.2.1
  have D1 := bel_alloc (Below.refl w.heap.size w) (.cells (xtV t B t.ats.length d) 36)
  have D2 := bel_alloc D1 (.cells (xtV t B t.ats.length d) 36)
  have ho := (hO.bel xtP D2)
  have hr : XtR ((w.alloc (.cells (xtV t B t.ats.length d) 36)).alloc (.cells (xtV t B t.ats.length d) 36)) (fun b => S b ∧ some b ≠ (Value.slice A n c).ownBlock) (some ⟨w.heap.size + 1, 0, none⟩) 1 [t] := by
    have hb2 := Blk.new (w.alloc (.cells (xtV t B t.ats.length d) 36)) 36 (xtV t B t.ats.length d)
    rw [show (w.alloc (.cells (xtV t B t.ats.length d) 36)).heap.size = w.heap.size + 1 by simp] at hb2
    exact RwR.blk1 hb2 (xtP.bel ht D2)
  have hba : base ≤ ((w.alloc (.cells (xtV t B t.ats.length d) 36)).alloc (.cells (xtV t B t.ats.length d) 36)).heap.size := by simp; omega
  have HZ : Hid (((w.alloc (.cells (xtV t B t.ats.length d) 36)).alloc (.cells (xtV t B t.ats.length d) 36)).heap.size = w.heap.size + 2) := Lib.hid (by simp)
  rw [e]
  have HD2 := Lib.hid D2
  have HLN := Lib.hid hLn
  have hc1 := hcap.1
  have hc2 := hcap.2
  clear hO ht e D1 D2 hLn hcap
  simp only [xtV] at ho hr hba HZ HD2 ⊢
  have fin : ∀ A' c' w', XtO w' base S A' (n + 1) c' (L ++ [t]) → Below base ((w.alloc (.cells (xtV t B t.ats.length d) 36)).alloc (.cells (xtV t B t.ats.length d) 36)) w' → ((w.alloc (.cells (xtV t B t.ats.length d) 36)).alloc (.cells (xtV t B t.ats.length d) 36)).grownBy w' (Value.slice A n c).ownBlock →
      ((Value.slice A' (n + 1) c').ownBlock = (Value.slice A n c).ownBlock ∨ (Value.slice A' (n + 1) c').ownBlock = some ((w.alloc (.cells (xtV t B t.ats.length d) 36)).alloc (.cells (xtV t B t.ats.length d) 36)).heap.size) → RetAdd w base S (Value.slice A n c).ownBlock (L ++ [t]) (.returned (.slice A' (n + 1) c')) w' := by
    intro A' c' w' h1 h2 h3 h4
    refine ⟨A', n + 1, c', rfl, h1, (HD2.out.mono hb).trans h2, grown_two (only_of_below HD2.out _) h3, fun b hb' => ?_⟩
    rcases h4 with h4 | h4
    · rw [h4] at hb'; exact .inl hb'
    · right
      rw [h4] at hb'
      injection hb' with hb'
      have := HZ.out
      simp only [xtV] at hb'
      omega
  have FIN := Lib.hid fin
  clear fin
  simp only [xtV] at FIN
  by_cases h3 : t.kd = 3
  · have hk1 : (t.kd != 3) = false := by simp [h3]
    have hk2 : (t.kd == 3) = true := by simp [h3]
    obtain ⟨h4, h5⟩ : t.tx ≠ [] ∧ ∀ u ∈ L.getLast?, u.kd ≠ 3 := by rcases h with h | ⟨_, h⟩; exact absurd h3 h; exact h
    have hx1 : ((⟨t.tx.toArray⟩ : ByteArray) == ⟨#[]⟩) = false := by
      cases htx : t.tx with
      | nil => exact absurd htx h4
      | cons a b => rfl
    have hx2 : t.tx.isEmpty = false := by simpa using h4
    clear h
    cases n with
    | zero =>
      have HH := Lib.hid (And.intro h3 (And.intro h4 h5))
      clear h3 h4 h5 hlast
      go_enter Try.func19, Try.ntmps19
      go_wp2_with (at_builtin; go_loud (refine wpList_appY xtP iXts rfl rfl rfl ho rfl hr (by omega) (by omega) hba ?_; intro A' c' w7 ho7 hb7 hgr7 hk7))
      go_ret
      exact FIN.out _ _ _ ho7 hb7 hgr7 hk7
    | succ m =>
      obtain ⟨x, g, hx, rfl, hg, hcell⟩ := hlast m rfl
      have hxk : x.kd ≠ 3 := h5 x (by
        have hl : L.length = m + 1 := HLN.out
        rw [List.getLast?_eq_getElem?, hl, Nat.add_sub_cancel]
        simpa using hx)
      have hxk2 : (x.kd == 3) = false := by simpa using hxk
      have HH := Lib.hid (And.intro h3 (And.intro h4 (And.intro h5 (And.intro hx hxk))))
      clear h3 h4 h5 hlast hx hxk
      go_enter Try.func19, Try.ntmps19
      go_wp2_with (at_builtin; go_loud (refine wpList_appY xtP iXts rfl rfl rfl ho rfl hr (by omega) (by omega) hba ?_; intro A' c' w7 ho7 hb7 hgr7 hk7))
      go_ret
      exact FIN.out _ _ _ ho7 hb7 hgr7 hk7
  · have hk1 : (t.kd != 3) = true := by simpa using h3
    have hk2 : (t.kd == 3) = false := by simpa using h3
    have HH := Lib.hid h3
    clear h3 h hlast
    go_enter Try.func19, Try.ntmps19
    go_wp2_with (at_builtin; go_loud (refine wpList_appY xtP iXts rfl rfl rfl ho rfl hr (by omega) (by omega) hba ?_; intro A' c' w7 ho7 hb7 hgr7 hk7))
    go_ret
    exact FIN.out _ _ _ ho7 hb7 hgr7 hk7
set_option maxHeartbeats 2000000 in
/-- an empty text is nothing -/
theorem add8_nil (hO : XtO w base S A n c L) (hb : base ≤ w.heap.size) (h3 : t.kd = 3) (h4 : t.tx = []) :
    Calls Try.prog 19 #[.slice A n c, .agg (xtV t B t.ats.length d)] w (RetAdd w base S (Value.slice A n c).ownBlock (addT L t)) := by
  have hcap := hO.cap
  have e : addT L t = L := by unfold addT; rw [if_pos h3, if_pos h4]
  have D1 := bel_alloc (Below.refl w.heap.size w) (.cells (xtV t B t.ats.length d) 36)
  have FIN : Hid (RetAdd w base S (Value.slice A n c).ownBlock L (.returned (.slice A n c)) (w.alloc (.cells (xtV t B t.ats.length d) 36))) := Lib.hid ⟨A, n, c, rfl, hO.bel xtP D1, D1.mono hb, only_of_below D1 _, fun b h => .inl h⟩
  rw [e]
  obtain ⟨k, nm, ats, tx⟩ := t
  simp only at h3 h4
  subst h3 h4
  have hc1 := hcap.1
  have hc2 := hcap.2
  clear hO D1 e hcap
  simp only [xtV] at FIN ⊢
  go_enter Try.func19, Try.ntmps19
  go_wp2_with fail
  go_ret
  exact FIN.out
set_option maxHeartbeats 2000000 in
/-- a text behind a text -/
theorem add8_more (hO : XtO w base S A n c L) (hb : base ≤ w.heap.size) (h3 : t.kd = 3) (h4 : t.tx ≠ []) {m : Nat} (hn : n = m + 1) (hm : m ≤ 100000) {u : Xtk} (hu : L[m]? = some u) (hk : u.kd = 3) (hul : u.tx.length ≤ 1000000000000) (htl : t.tx.length ≤ 1000000) :
    Calls Try.prog 19 #[.slice A n c, .agg (xtV t B t.ats.length d)] w (RetAdd w base S (Value.slice A n c).ownBlock (addT L t)) := by
  subst hn
  have hcap := hO.cap
  have hLn := hO.len
  rw [addT_set h3 h4 hLn hu hk]
  obtain ⟨x, v, g, h1, rfl, h3', hg, hf, h6, h7⟩ := hO.get (show m < m + 1 by omega)
  have hx : x = u := by rw [hu] at h1; injection h1 with h1; exact h1.symm
  subst hx
  obtain ⟨B', d', rfl, _⟩ := h6
  have z0 : w.cell? ⟨g, m * 4, none⟩ = some (.int .i64 3) := by rw [← hk]; exact h7 0 _ rfl
  have z3 : w.cell? ⟨g, m * 4 + 3, none⟩ = some (.string ⟨x.tx.toArray⟩) := h7 3 _ rfl
  have hf0 := hf (m * 4 + 3)
  have D1 := bel_alloc (Below.refl w.heap.size w) (.cells (xtV t B t.ats.length d) 36)
  have hcat : (⟨x.tx.toArray⟩ : ByteArray) ++ ⟨t.tx.toArray⟩ = ⟨(x.tx ++ t.tx).toArray⟩ := by
    apply ByteArray.ext
    simp
  have FIN : Hid (RetAdd w base S (Value.slice (some ⟨g, 0, none⟩) (m + 1) c).ownBlock (L.set m ⟨x.kd, x.nm, x.ats, x.tx ++ t.tx⟩) (.returned (.slice (some ⟨g, 0, none⟩) (m + 1) c)) (((w.setCell ⟨g, m * 4 + 3, none⟩ (.string ((⟨x.tx.toArray⟩ : ByteArray) ++ ⟨t.tx.toArray⟩))).alloc (.cells (xtV t B t.ats.length d) 36)).drew)) := Lib.hid (by
    rw [hcat]
    have hg1 : w.grownBy (w.setCell ⟨g, m * 4 + 3, none⟩ (.string ⟨(x.tx ++ t.tx).toArray⟩)) (some g) := only_setCell (World.grownBy.refl _ _) (.inl rfl) _
    have hD := (bel_alloc (Below.refl (w.setCell ⟨g, m * 4 + 3, none⟩ (.string ⟨(x.tx ++ t.tx).toArray⟩)).heap.size _) (.cells (xtV t B t.ats.length d) 36)).drew
    have hz := hg1.size
    refine ⟨_, m + 1, c, rfl, (hO.put xtP rfl (by omega) (by omega) _ _ (fun w2 v y hy hP => ?_)).bel xtP hD, (below_only (Below.refl _ _) hg1 h3' hb).trans (hD.mono (Nat.le_trans hb hz)), grown_two hg1 (only_of_below hD _), fun b h => .inl h⟩
    rw [hu] at hy
    injection hy with hy
    subst hy
    exact xtP_set hP (by rw [List.length_append]; omega))
  clear hcat
  obtain ⟨k, nm, ats, tx⟩ := t
  simp only at h3 h4 htl FIN
  subst h3
  have hc1 := hcap.1
  have hc2 := hcap.2
  have hx1 : ((⟨tx.toArray⟩ : ByteArray) == ⟨#[]⟩) = false := by
    cases htx : tx with
    | nil => exact absurd htx h4
    | cons a b => rfl
  have hx2 : tx.isEmpty = false := by simpa using h4
  have H4 := Lib.hid h4
  clear hO hcap hLn h1 hu hk h7 hf D1 h4
  simp only [xtV] at FIN ⊢
  go_enter Try.func19, Try.ntmps19
  go_wp2_with fail
  go_region
  go_wp2_with fail
  go_ret
  exact FIN.out
theorem add8_any (hO : XtO w base S A n c L) (hb : base ≤ w.heap.size) (hn : n ≤ 100000) (ht : XtP w (fun b => S b ∧ some b ≠ (Value.slice A n c).ownBlock) (xtV t B t.ats.length d) t) (hx : ∀ u ∈ L, u.tx.length ≤ 1000000000000) (htl : t.tx.length ≤ 1000000) :
    Calls Try.prog 19 #[.slice A n c, .agg (xtV t B t.ats.length d)] w (RetAdd w base S (Value.slice A n c).ownBlock (addT L t)) := by
  by_cases h3 : t.kd = 3
  · by_cases h4 : t.tx = []
    · exact add8_nil L A n c base S t B d w hO hb h3 h4
    · have hl := hO.len
      cases n with
      | zero =>
        have : L = [] := List.eq_nil_of_length_eq_zero hl
        subst this
        exact add8_app [] A 0 c base S t B d w hO hb hn ht (.inr ⟨h3, h4, by simp⟩)
      | succ m =>
        have hg : L[m]? = some (L[m]'(by omega)) := List.getElem?_eq_getElem (by omega)
        by_cases hk : (L[m]'(by omega)).kd = 3
        · exact add8_more L A (m + 1) c base S t B d w hO hb h3 h4 rfl (by omega) hg hk (hx _ (List.mem_of_getElem? hg)) htl
        · refine add8_app L A (m + 1) c base S t B d w hO hb hn ht (.inr ⟨h3, h4, fun u hu => ?_⟩)
          rw [List.getLast?_eq_getElem?, hl, Nat.add_sub_cancel, hg] at hu
          injection hu with hu
          exact hu ▸ hk
  · exact add8_app L A n c base S t B d w hO hb hn ht (.inl h3)
end
end Go.Proofs.Ytnagckdaleafdaa
