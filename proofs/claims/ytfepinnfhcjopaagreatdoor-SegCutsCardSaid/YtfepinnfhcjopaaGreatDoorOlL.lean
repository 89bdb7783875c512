/-
  The plain law of older formats' bytes; old.Put, the reference's Put.
  The plain law of lifting: a text, clean, cut, clean, is short; what anything is lifted to may be in its format.
  of, Second, Third.
  Second of the first format; Second.
-/
import Derived.Test.YtfepinnfhcjopaaGreatDoorOlA
import Derived.Test.YtfepinnfhcjopaaGreatDoorOlJ
section
namespace Go.Proofs.YtfepinnfhcjopaaGreatDoor
open Go.RowKit Go.Nst
set_option maxRecDepth 100000
set_option linter.unusedVariables false
set_option linter.unusedSimpArgs false

def olT (o : Ol) : List UInt8 := numsL (sN o.v o.k) o.a o.b o.n 3 ++ textsL (sT o.v o.k) o.s o.t [] 2
def olL (o : Ol) : List UInt8 := [UInt8.ofNat o.v.toNat, UInt8.ofNat o.k.toNat] ++ olT o
structure OlF (o : Ol) : Prop where
  v : o.v = 1 ∨ o.v = 2
  ka : 1 ≤ o.k
  kz : o.k ≤ 13
  a : mayB o.a = true
  b : mayB o.b = true
  n : mayB o.n = true
  s : o.s.length ≤ 1024
  t : o.t.length ≤ 1024
  a0 : bitB (sN o.v o.k) 0 = false → o.a = 0
  b0 : bitB (sN o.v o.k) 1 = false → o.b = 0
  n0 : bitB (sN o.v o.k) 2 = false → o.n = 0
  s0 : bitB (sT o.v o.k) 0 = false → o.s = []
  t0 : bitB (sT o.v o.k) 1 = false → o.t = []
theorem chkN_parts {m i : Nat} {x : Int} (h : chkN m i x = true) : mayB x = true ∧ (bitB m i = false → x = 0) := by
  unfold chkN at h
  rw [Bool.and_eq_true] at h
  refine ⟨h.1, fun hb => ?_⟩
  have h2 := h.2
  rw [hb] at h2
  simpa using h2
theorem chkT_parts {q i : Nat} {x : List UInt8} (h : chkT q i x = true) : x.length ≤ 1024 ∧ (bitB q i = false → x = []) := by
  unfold chkT at h
  rw [Bool.and_eq_true] at h
  refine ⟨by simpa using h.1, fun hb => ?_⟩
  have h2 := h.2
  rw [hb] at h2
  simpa using h2
theorem olF {o : Ol} (h : o.ok = true) : OlF o := by
  unfold Ol.ok okN okT at h
  simp only [Bool.and_eq_true] at h
  obtain ⟨h1, h2, h3, h4, h5, h6⟩ := h
  have g1 := chkN_parts h1
  have g2 := chkN_parts h2
  have g3 := chkN_parts h3
  have g4 := chkT_parts h4
  have g5 := chkT_parts h5
  have g6 : (o.v = 1 ∨ o.v = 2) ∧ 1 ≤ o.k ∧ o.k ≤ 13 := by
    unfold sI i1 i2 at h6
    by_cases e1 : o.v = 1
    · rw [if_pos e1] at h6; simp at h6; omega
    · rw [if_neg e1] at h6
      by_cases e2 : o.v = 2
      · rw [if_pos e2] at h6; simp at h6; omega
      · rw [if_neg e2] at h6; cases h6
  exact ⟨g6.1, g6.2.1, g6.2.2, g1.1, g2.1, g3.1, g4.1, g5.1, g1.2, g2.2, g3.2, g4.2, g5.2⟩
theorem OS.app {w w3 w' : World} {gs gt : Nat} {o : Array Value} {m q : Nat} {i : Bool} {base len c : Nat} {A : Option Addr} {l : List UInt8} (h : OS w w3 gs gt o m q i) (hO : Ow w3 base A len c l) (hg : w3.grownBy w' (Value.slice A len c).ownBlock) (hb : Below w.heap.size w3 w') : OS w w' gs gt o m q i :=
  ⟨h.ob.grown hg (ow_apart hO h.ob (by decide)), h.sh.grown hg (ow_apart hO h.sh (by decide)), h.tx.grown hg (ow_apart hO h.tx (by decide)), h.bel.trans hb⟩
end Go.Proofs.YtfepinnfhcjopaaGreatDoor
end
section
namespace Go.Proofs.YtfepinnfhcjopaaGreatDoor
open Go.RowKit Go.Nst
set_option maxRecDepth 100000
set_option linter.unusedVariables false
set_option linter.unusedSimpArgs false

theorem enc_pos (r : Int) : 1 ≤ (Lib.encodeRune r).length := by
  have := enc_ne r []
  rw [List.append_nil] at this
  exact List.length_pos_iff.2 this
theorem clean_short (l : List Int) : (putR (cleanF l).1).length + (if (cleanF l).2 then 1 else 0) ≤ (putR l).length := by
  suffices ∀ (n : Nat) (l : List Int), l.length = n → (putR (cleanF l).1).length + (if (cleanF l).2 then 1 else 0) ≤ (putR l).length from this _ l rfl
  intro n
  induction n with
  | zero => intro l h; obtain rfl : l = [] := List.eq_nil_of_length_eq_zero h; simp [cleanF, putR]
  | succ n ih =>
    intro l h
    have hne : l ≠ [] := by intro e; subst e; simp at h
    obtain ⟨t, c, rfl⟩ : ∃ t c, l = t ++ [c] := ⟨l.dropLast, l.getLast hne, (List.dropLast_concat_getLast hne).symm⟩
    have h1 := ih t (by simpa using h)
    have h2 := enc_pos c
    have h3 : (Lib.encodeRune 32).length = 1 := by decide
    rw [cleanF_snoc, putR_snoc, List.length_append]
    generalize cleanF t = st at *
    obtain ⟨out, wait⟩ := st
    simp only at h1
    unfold cleanS
    simp only
    by_cases b1 : blankB c = true
    · rw [if_pos b1]
      simp only
      have : (if decide (0 < out.length) = true then 1 else 0) ≤ 1 := by split <;> omega
      omega
    · rw [if_neg b1]
      by_cases b2 : ctrlB c = true
      · rw [if_pos b2]
        simp only
        omega
      · rw [if_neg b2]
        cases wait with
        | false =>
          rw [if_neg (by decide)]
          simp only [putR_snoc, List.length_append, Bool.false_eq_true, if_false] at h1 ⊢
          omega
        | true =>
          rw [if_pos rfl]
          simp only [putR_snoc, List.length_append, Bool.false_eq_true, if_false, if_true] at h1 ⊢
          omega
theorem cut_put (n : Int) : ∀ (rs : List Int) (m : Int), ∃ k, cutT (putR rs) m = putR (rs.take k)
  | [], m => ⟨0, by simp [cutT, putR]⟩
  | r :: t, m => by
    obtain ⟨k, hk⟩ := cut_put n t (m - (Lib.encodeRune r).length)
    unfold cutT at hk ⊢
    rw [putR_cons, cutL_step _ _ (enc_ne _ _), first_enc]
    simp only [List.drop_left]
    by_cases h : (((Lib.encodeRune r).length : Nat) : Int) ≤ m
    · rw [if_pos h]
      refine ⟨k + 1, ?_⟩
      rw [List.take_succ_cons, putR_cons, ← hk, List.take_append]
      simp
      rw [List.take_of_length_le (by omega)]
    · rw [if_neg h]
      exact ⟨0, by simp [putR]⟩
theorem shortT_len (l : List UInt8) (n : Int) (hn : 0 ≤ n) : ((shortT l n).length : Int) ≤ n := by
  unfold shortT
  have h0 : Okr (cleanR (runesI l)) := clean_ok _ (runes_ok l)
  obtain ⟨k, hk⟩ := cut_put 0 (cleanR (runesI l)) n
  have h1 : ((cutT (cleanT l) n).length : Int) ≤ n := by
    unfold cutT
    have := (cutL_le (cleanT l) n).2.1 hn
    rw [List.length_take]
    omega
  have h2 : cutT (cleanT l) n = putR ((cleanR (runesI l)).take k) := hk
  have h3 : Okr ((cleanR (runesI l)).take k) := fun r hr => h0 r (List.mem_of_mem_take hr)
  have h4 : cleanT (cutT (cleanT l) n) = putR (cleanR ((cleanR (runesI l)).take k)) := by rw [h2]; unfold cleanT; rw [runes_put_ok _ h3]
  have h5 := clean_short ((cleanR (runesI l)).take k)
  rw [h4]
  rw [h2] at h1
  have h6 : (putR (cleanR ((cleanR (runesI l)).take k))).length = (putR (cleanF ((cleanR (runesI l)).take k)).1).length := rfl
  omega
theorem word_len {l x : List UInt8} (h : x ∈ wordsL l) : x.length ≤ 128 := by
  unfold wordsL wordsR at h
  simp only [List.mem_map, List.map_map, Function.comp] at h
  obtain ⟨r, _, rfl⟩ := h
  have := putR_len (r.take 32)
  rw [List.length_take] at this
  omega
def secondO (o : Ol) : List Ol := if o.ok then (if o.v = 1 then oneO o.k o.a o.b o.n o.s o.t else [o]) else []
theorem chkN_of {m i : Nat} {x : Int} (h : mayB x = true) (hb : bitB m i = true ∨ x = 0) : chkN m i x = true := by
  unfold chkN
  rw [h]
  rcases hb with hb | hb <;> simp [hb]
theorem chkT_of {q i : Nat} {x : List UInt8} (h : x.length ≤ 1024) (hb : bitB q i = true ∨ x = []) : chkT q i x = true := by
  unfold chkT
  rcases hb with hb | hb <;> simp [hb, h]
theorem okN_of {m q : Nat} {i : Bool} {a b n : Int} {s t : List UInt8} (h0 : chkN m 0 a = true) (h1 : chkN m 1 b = true) (h2 : chkN m 2 n = true) (h3 : chkT q 0 s = true) (h4 : chkT q 1 t = true) (h5 : i = true) : okN m q i a b n s t 0 = true := by
  unfold okN okT
  simp [h0, h1, h2, h3, h4, h5]
theorem may0 : mayB 0 = true := by decide
theorem second_ok (o x : Ol) (hx : x ∈ secondO o) : x.v = 2 ∧ x.ok = true := by
  unfold secondO at hx
  by_cases hok : o.ok = true
  · rw [if_pos hok] at hx
    have f := olF hok
    by_cases h1 : o.v = 1
    · rw [if_pos h1] at hx
      unfold oneO at hx
      by_cases k1 : o.k = 1
      · rw [if_pos k1] at hx
        simp only [List.mem_cons, List.not_mem_nil, or_false] at hx
        subst hx
        have hl := shortT_len o.s 512 (by omega)
        exact ⟨rfl, okN_of (chkN_of f.a (.inl (show bitB (sN 2 3) 0 = true by decide))) (chkN_of may0 (.inr rfl)) (chkN_of may0 (.inr rfl)) (chkT_of (by simp only; omega) (.inl (show bitB (sT 2 3) 0 = true by decide))) (chkT_of (by simp) (.inr rfl)) (show sI 2 3 = true by decide)⟩
      rw [if_neg k1] at hx
      by_cases k2 : o.k = 2
      · rw [if_pos k2] at hx
        simp only [List.mem_cons, List.not_mem_nil, or_false] at hx
        subst hx
        exact ⟨rfl, okN_of (chkN_of f.a (.inl (show bitB (sN 2 4) 0 = true by decide))) (chkN_of may0 (.inr rfl)) (chkN_of may0 (.inr rfl)) (chkT_of (by simp) (.inr rfl)) (chkT_of (by simp) (.inr rfl)) (show sI 2 4 = true by decide)⟩
      rw [if_neg k2] at hx
      by_cases k3 : o.k = 3
      · rw [if_pos k3] at hx
        simp only [List.mem_cons, List.not_mem_nil, or_false] at hx
        subst hx
        have hl := shortT_len o.s 512 (by omega)
        have hl2 := shortT_len o.t 256 (by omega)
        exact ⟨rfl, okN_of (chkN_of f.a (.inl (show bitB (sN 2 7) 0 = true by decide))) (chkN_of f.b (.inl (show bitB (sN 2 7) 1 = true by decide))) (chkN_of may0 (.inr rfl)) (chkT_of (by simp only; omega) (.inl (show bitB (sT 2 7) 0 = true by decide))) (chkT_of (by simp only; omega) (.inl (show bitB (sT 2 7) 1 = true by decide))) (show sI 2 7 = true by decide)⟩
      rw [if_neg k3] at hx
      by_cases k4 : o.k = 4
      · rw [if_pos k4] at hx
        by_cases hn : o.n < 0 ∨ 3 < o.n
        · rw [if_pos hn] at hx; cases hx
        rw [if_neg hn] at hx
        have m1 : mayB (o.n % 2) = true := by rw [mayB_iff]; omega
        have m2 : mayB (o.n / 2) = true := by rw [mayB_iff]; omega
        simp only [List.mem_cons, List.not_mem_nil, or_false] at hx
        rcases hx with rfl | rfl
        · exact ⟨rfl, okN_of (chkN_of f.a (.inl (show bitB (sN 2 8) 0 = true by decide))) (chkN_of may0 (.inr rfl)) (chkN_of m1 (.inl (show bitB (sN 2 8) 2 = true by decide))) (chkT_of (by simp) (.inr rfl)) (chkT_of (by simp) (.inr rfl)) (show sI 2 8 = true by decide)⟩
        · exact ⟨rfl, okN_of (chkN_of f.a (.inl (show bitB (sN 2 9) 0 = true by decide))) (chkN_of may0 (.inr rfl)) (chkN_of m2 (.inl (show bitB (sN 2 9) 2 = true by decide))) (chkT_of (by simp) (.inr rfl)) (chkT_of (by simp) (.inr rfl)) (show sI 2 9 = true by decide)⟩
      rw [if_neg k4] at hx
      cases hw : wordsL o.s with
      | nil => rw [hw] at hx; cases hx
      | cons y ys =>
        rw [hw] at hx
        simp only [List.mem_cons, List.not_mem_nil, or_false] at hx
        subst hx
        have hl := word_len (l := o.s) (x := y) (by rw [hw]; exact List.mem_cons_self)
        exact ⟨rfl, okN_of (chkN_of f.a (.inl (show bitB (sN 2 10) 0 = true by decide))) (chkN_of may0 (.inr rfl)) (chkN_of f.n (.inl (show bitB (sN 2 10) 2 = true by decide))) (chkT_of (by simp only; omega) (.inl (show bitB (sT 2 10) 0 = true by decide))) (chkT_of (by simp) (.inr rfl)) (show sI 2 10 = true by decide)⟩
    · rw [if_neg h1] at hx
      simp only [List.mem_cons, List.not_mem_nil, or_false] at hx
      subst hx
      exact ⟨by have := f.v; omega, hok⟩
  · rw [if_neg hok] at hx
    cases hx
end Go.Proofs.YtfepinnfhcjopaaGreatDoor
end
section
namespace Go.Proofs.YtfepinnfhcjopaaGreatDoor
open Go.RowKit Go.Nst
set_option maxRecDepth 100000
set_option linter.unusedVariables false
set_option linter.unusedSimpArgs false

def ofL (v k a b n : Int) (s t : List UInt8) : List Value := if Ol.ok ⟨v, k, a, b, n, s, t⟩ then (if v = 1 then [lfOne v k a b n s t] else [lfTwo v k a b n s t]) else []
theorem of_any (v k a b n : Int) (s t : List UInt8) (w : World) (hs : s.length ≤ 10000) (ht : t.length ≤ 10000) (hN : Nms w) : Calls Tryz.prog 105 #[.agg (OC v k a b n s t)] w (RetL w (ofL v k a b n s t).length (ofL v k a b n s t)) := by
  have HC := Lib.hid (fun W h => oldCheck_any v k a b n s t W (by omega) (by omega) h)
  have HN := Lib.hid (hN.below (bel_alloc (Below.refl w.heap.size w) (.cells (OC v k a b n s t) 90)))
  have hv0 := Blk.new w 90 (OC v k a b n s t)
  have B0 := bel_alloc (Below.refl w.heap.size w) (.cells (OC v k a b n s t) 90)
  unfold ofL
  clear hN
  cases hok : Ol.ok ⟨v, k, a, b, n, s, t⟩ with
  | false =>
    rw [hok] at HC
    clear hok
    simp only [OC] at *
    go_enter Tryz.func105, Tryz.ntmps105
    go_wp2_with fail
    (with_reducible refine (HC.out _ HN.out).mono ?_)
    rintro e w1 ⟨rfl, hb1⟩
    go_wp2_with fail
    go_ret
    exact RetRow.nil rfl (bel_step B0 hb1)
  | true =>
    rw [hok] at HC
    clear hok
    by_cases h1 : v = 1
    · have e1 : (v == 1) = true := by simpa using h1
      rw [if_pos rfl, if_pos h1]
      simp only [OC, lfOne] at *
      clear h1
      go_enter Tryz.func105, Tryz.ntmps105
      go_wp2_with fail
      (with_reducible refine (HC.out _ HN.out).mono ?_)
      rintro e w1 ⟨rfl, hb1⟩
      have hv1 := hv0.below hb1 hv0.lt
      have B1 := bel_step B0 hb1
      have y0 := hv1.cell 0
      have y1 := hv1.cell 1
      have y2 := hv1.cell 2
      have y3 := hv1.cell 3
      have y4 := hv1.cell 4
      have y5 := hv1.cell 5
      have y6 := hv1.cell 6
      try simp only [OC] at y0 y1 y2 y3 y4 y5 y6
      simp at y0 y1 y2 y3 y4 y5 y6
      clear hv0 hb1 B0
      go_wp2_with fail
      go_ret
      exact RetRow.lit rfl (by first | rfl | simp) rfl rfl (by omega) B1
    · have e1 : (v == 1) = false := by simpa using h1
      rw [if_pos rfl, if_neg h1]
      simp only [OC, lfTwo] at *
      clear h1
      go_enter Tryz.func105, Tryz.ntmps105
      go_wp2_with fail
      (with_reducible refine (HC.out _ HN.out).mono ?_)
      rintro e w1 ⟨rfl, hb1⟩
      have hv1 := hv0.below hb1 hv0.lt
      have B1 := bel_step B0 hb1
      have y0 := hv1.cell 0
      have y1 := hv1.cell 1
      have y2 := hv1.cell 2
      have y3 := hv1.cell 3
      have y4 := hv1.cell 4
      have y5 := hv1.cell 5
      have y6 := hv1.cell 6
      try simp only [OC] at y0 y1 y2 y3 y4 y5 y6
      simp at y0 y1 y2 y3 y4 y5 y6
      clear hv0 hb1 B0
      go_wp2_with fail
      go_ret
      exact RetRow.lit rfl (by first | rfl | simp) rfl rfl (by omega) B1
theorem ta_two (W : World) (x0 x1 x2 x3 x4 x5 x6 : Value) : (Instr.typeAssert (.iface 125 (.agg #[x0, x1, x2, x3, x4, x5, x6])) 128 125 true).run Tryz.prog W = .ok (.tuple #[.agg #[x0, x1, x2, x3, x4, x5, x6], .bool true]) W := by kernel_rfl
theorem ta_two_p (W : World) (x0 x1 x2 x3 x4 x5 x6 : Value) : (Instr.typeAssert (.iface 125 (.agg #[x0, x1, x2, x3, x4, x5, x6])) 128 125 false).run Tryz.prog W = .ok (.agg #[x0, x1, x2, x3, x4, x5, x6]) W := by kernel_rfl
theorem ta_one (W : World) (x0 x1 x2 x3 x4 x5 x6 : Value) : (Instr.typeAssert (.iface 145 (.agg #[x0, x1, x2, x3, x4, x5, x6])) 128 125 true).run Tryz.prog W = .ok (.tuple #[.agg #[.int .i64 0, .int .i64 0, .int .i64 0, .int .i64 0, .int .i64 0, .string ⟨#[]⟩, .string ⟨#[]⟩], .bool false]) W := by kernel_rfl
theorem ta_three (W : World) (x0 x1 x2 x3 x4 x5 x6 : Value) : (Instr.typeAssert (.iface 129 (.agg #[x0, x1, x2, x3, x4, x5, x6])) 128 129 true).run Tryz.prog W = .ok (.tuple #[.agg #[x0, x1, x2, x3, x4, x5, x6], .bool true]) W := by kernel_rfl
theorem me_one (fuel : Nat) (W : World) (x0 x1 x2 x3 x4 x5 x6 : Value) : (method (fuel + 1) 145 (.agg #[x0, x1, x2, x3, x4, x5, x6]) "newsstand/old.next").run Tryz.prog W = .ok (178, .agg #[x0, x1, x2, x3, x4, x5, x6]) W := by kernel_rfl
/-! ### rows of what is told -/
theorem lit_reads (w : World) (t : TypeId) (cs : Array Value) (s n k : Nat) (hl : cs.size = n * s) (hk : w.heap.size = k) : Reads (w.alloc (.cells cs t)) (w.alloc (.cells cs t)).heap.size s (some ⟨k, 0, none⟩) n cs.toList := by
  subst hk
  refine ⟨by rw [Array.length_toList, hl], fun _ => ⟨_, rfl, by simp, fun j u hu => ?_⟩⟩
  rw [add_lit, Nat.zero_add, (Blk.new w t cs).cell]
  simpa using hu
/-- a row that stands: its cells -/
def Rw (w : World) (A : Option Addr) (n : Nat) (xs : List Value) : Prop := n = 0 ∨ ∃ g, A = some ⟨g, 0, none⟩ ∧ g < w.heap.size ∧ ∀ j u, xs[j]? = some u → w.cell? ⟨g, j, none⟩ = some u
theorem Rw.of_own {w : World} {base n c s : Nat} {e : TypeId} {A : Option Addr} {xs : List Value} (h : w.ownsRow base e s (.slice A n c) n xs) : Rw w A n xs := by
  rcases Nat.eq_zero_or_pos n with h0 | h0
  · exact .inl h0
  · obtain ⟨g, rfl, _, hg, _⟩ := own_where h h0
    refine .inr ⟨g, rfl, hg, fun j u hu => ?_⟩
    have := World.ownsRow.cells (g := g) h rfl j u hu
    rwa [add_lit, Nat.zero_add] at this
theorem Rw.below {w w' : World} {A : Option Addr} {n : Nat} {xs : List Value} (h : Rw w A n xs) (hb : Below w.heap.size w w') : Rw w' A n xs := by
  rcases h with h0 | ⟨g, e, hg, hc⟩
  · exact .inl h0
  · exact .inr ⟨g, e, Nat.lt_of_lt_of_le hg hb.size, fun j u hu => (hb.cell (p := ⟨g, j, none⟩) hg).trans (hc j u hu)⟩
def olC (o : Ol) : List Value := [.int .i64 o.v, .int .i64 o.k, .int .i64 o.a, .int .i64 o.b, .int .i64 o.n, .string ⟨o.s.toArray⟩, .string ⟨o.t.toArray⟩]
def olsC (l : List Ol) : List Value := l.flatMap olC
theorem olsC_snoc (l : List Ol) (o : Ol) : olsC (l ++ [o]) = olsC l ++ olC o := by simp [olsC]
theorem olC_one (o : Ol) : ∀ u ∈ olC o, u.oneCell' = true := by
  intro u hu
  simp only [olC, List.mem_cons, List.not_mem_nil, or_false] at hu
  rcases hu with rfl | rfl | rfl | rfl | rfl | rfl | rfl <;> rfl
theorem iOlds : Info Tryz.prog 106 90 (.agg #[.int .i64 0, .int .i64 0, .int .i64 0, .int .i64 0, .int .i64 0, .string ⟨#[]⟩, .string ⟨#[]⟩]) 7 72 := Info.mk_ Tryz.underlying106 (by kernel_rfl) rfl (by omega)
abbrev RetOl := RetRow 90 7
set_option maxHeartbeats 4000000 in
theorem second_no (v k a b n : Int) (s t : List UInt8) (w : World) (hs : s.length ≤ 10000) (ht : t.length ≤ 10000) (hN : Nms w) (hok : Ol.ok ⟨v, k, a, b, n, s, t⟩ = false) : Calls Tryz.prog 90 #[.agg (OC v k a b n s t)] w (RetOl w 0 []) := by
  have HO := Lib.hid (fun W h => of_any v k a b n s t W hs ht h)
  have HN := Lib.hid (hN.below (bel_alloc (Below.refl w.heap.size w) (.cells (OC v k a b n s t) 90)))
  have B0 := bel_alloc (Below.refl w.heap.size w) (.cells (OC v k a b n s t) 90)
  unfold ofL at HO
  rw [hok] at HO
  simp only [OC] at *
  simp only [Bool.false_eq_true, if_false, List.length_nil] at HO
  clear hok hN
  go_enter Tryz.func90, Tryz.ntmps90
  go_wp2_with fail
  (with_reducible refine (HO.out _ HN.out).mono ?_)
  rintro e w1 ⟨A1, c1, rfl, ho1, hb1⟩
  go_wp2_with fail
  go_loop [3, 13] (fun y x => y = .slice none 0 0 ∧ x = .int .i64 0) (fun _ _ => 0)
  case atStart => exact ⟨rfl, rfl⟩
  case round =>
    obtain ⟨rfl, rfl⟩ := hrel
    go_wp2_with fail
    go_ret
    exact RetRow.nil rfl (bel_step B0 hb1)
set_option maxHeartbeats 4000000 in
theorem second_two (v k a b n : Int) (s t : List UInt8) (w : World) (hs : s.length ≤ 10000) (ht : t.length ≤ 10000) (hN : Nms w) (hok : Ol.ok ⟨v, k, a, b, n, s, t⟩ = true) (h1 : v ≠ 1) : Calls Tryz.prog 90 #[.agg (OC v k a b n s t)] w (RetOl w 1 (olsC [⟨v, k, a, b, n, s, t⟩])) := by
  have HO := Lib.hid (fun W h => of_any v k a b n s t W hs ht h)
  have HN := Lib.hid (hN.below (bel_alloc (Below.refl w.heap.size w) (.cells (OC v k a b n s t) 90)))
  have B0 := bel_alloc (Below.refl w.heap.size w) (.cells (OC v k a b n s t) 90)
  unfold ofL at HO
  rw [hok, if_pos rfl, if_neg h1] at HO
  simp only [OC, lfTwo] at *
  simp only [List.length_cons, List.length_nil, Nat.zero_add] at HO
  clear hok hN h1
  go_enter Tryz.func90, Tryz.ntmps90
  go_wp2_with fail
  (with_reducible refine (HO.out _ HN.out).mono ?_)
  rintro e w1 ⟨A1, c1, rfl, ho1, hb1⟩
  have B1 := bel_step B0 hb1
  obtain ⟨g, rfl, hg1, hg2, _⟩ := own_where ho1 (by omega)
  have hc := World.ownsRow.cells (g := g) ho1 rfl 0 _ rfl
  rw [add_lit] at hc
  simp at hc
  have HC0 := Lib.hid hc
  clear hb1 hc
  go_wp2_with fail
  go_loopw [3, 13] (fun y x wr => Below w1.heap.size w1 wr ∧ ((x = .int .i64 0 ∧ y = .slice none 0 0) ∨ (x = .int .i64 1 ∧ ∃ A c, y = .slice A 1 c ∧ wr.ownsRow w.heap.size 90 7 (.slice A 1 c) 1 (olsC [⟨v, k, a, b, n, s, t⟩])))) (fun _ x _ => (1 - intOf x).toNat)
  case atStart => exact ⟨Below.refl _ _, .inl ⟨rfl, rfl⟩⟩
  case round =>
    obtain ⟨hbw, hrel⟩ := hrel
    have hsz := B1.size
    have hsw := hbw.size
    rcases hrel with ⟨rfl, rfl⟩ | ⟨rfl, A, c, rfl, hrow⟩
    · have hc := (hbw.cell (p := ⟨g, 0, none⟩) hg2).trans HC0.out
      have ta := ta_two
      have hR := lit_reads (wr.alloc (.cells #[.int .i64 v, .int .i64 k, .int .i64 a, .int .i64 b, .int .i64 n, .string ⟨s.toArray⟩, .string ⟨t.toArray⟩] 125)) 90 #[.int .i64 v, .int .i64 k, .int .i64 a, .int .i64 b, .int .i64 n, .string ⟨s.toArray⟩, .string ⟨t.toArray⟩] 7 1 (wr.heap.size + 1) rfl (by simp)
      have hone := olC_one ⟨v, k, a, b, n, s, t⟩
      have B2 : Below w1.heap.size w1 ((wr.alloc (.cells #[.int .i64 v, .int .i64 k, .int .i64 a, .int .i64 b, .int .i64 n, .string ⟨s.toArray⟩, .string ⟨t.toArray⟩] 125)).alloc (.cells #[.int .i64 v, .int .i64 k, .int .i64 a, .int .i64 b, .int .i64 n, .string ⟨s.toArray⟩, .string ⟨t.toArray⟩] 90)) := bel_alloc (bel_alloc hbw _) _
      have hs2 := B2.size
      go_wp2_with (at_builtin; go_loud (refine wpList_app _ iOlds rfl rfl rfl (World.ownsRow_nil _ w.heap.size 90 7) rfl hR hone (by unfold maxLen; omega) (by omega) (by simp; omega) ?_; intro A' c' w' h2 h3 _))
      go_roundw
      case rel =>
        refine ⟨B2.trans ((Below.refl _ _).grown h3 hs2 (fun k hk => by cases hk)), .inr ⟨rfl, A', c', rfl, ?_⟩⟩
        exact h2
      case measure => simp [intOf]
    · go_wp2_with fail
      go_ret
      exact RetRow.of rfl hrow (bel_step B1 hbw)
end Go.Proofs.YtfepinnfhcjopaaGreatDoor
end
section
namespace Go.Proofs.YtfepinnfhcjopaaGreatDoor
open Go.RowKit Go.Nst
set_option maxRecDepth 100000
set_option linter.unusedVariables false
set_option linter.unusedSimpArgs false

theorem oneO_len (k a b n : Int) (s t : List UInt8) : (oneO k a b n s t).length ≤ 2 := by
  unfold oneO
  (repeat' split) <;> simp
set_option maxHeartbeats 4000000 in
theorem second_one (k a b n : Int) (s t : List UInt8) (w : World) (hs : s.length ≤ 10000) (ht : t.length ≤ 10000) (hN : Nms w) (hok : Ol.ok ⟨1, k, a, b, n, s, t⟩ = true) : Calls Tryz.prog 90 #[.agg (OC 1 k a b n s t)] w (RetOl w (oneO k a b n s t).length (olsC (oneO k a b n s t))) := by
  have HO := Lib.hid (fun W h => of_any 1 k a b n s t W hs ht h)
  have HX := Lib.hid (fun W => oneNext_any 1 k a b n s t W hs ht)
  have HN := Lib.hid (hN.below (bel_alloc (Below.refl w.heap.size w) (.cells (OC 1 k a b n s t) 90)))
  have B0 := bel_alloc (Below.refl w.heap.size w) (.cells (OC 1 k a b n s t) 90)
  have hL2 := oneO_len k a b n s t
  unfold ofL at HO
  rw [hok, if_pos rfl, if_pos rfl] at HO
  generalize oneO k a b n s t = L at *
  simp only [OC, lfOne] at *
  simp only [List.length_cons, List.length_nil, Nat.zero_add] at HO
  clear hok hN
  go_enter Tryz.func90, Tryz.ntmps90
  go_wp2_with fail
  (with_reducible refine (HO.out _ HN.out).mono ?_)
  rintro e w1 ⟨A1, c1, rfl, ho1, hb1⟩
  have B1 := bel_step B0 hb1
  obtain ⟨g, rfl, hg1, hg2, _⟩ := own_where ho1 (by omega)
  have hc := World.ownsRow.cells (g := g) ho1 rfl 0 _ rfl
  rw [add_lit] at hc
  simp at hc
  have HC0 := Lib.hid hc
  clear hb1 hc
  go_wp2_with fail
  go_loopw [3, 13] (fun y x wr => Below w1.heap.size w1 wr ∧ ((x = .int .i64 0 ∧ y = .slice none 0 0) ∨ (x = .int .i64 1 ∧ ∃ A c, y = .slice A L.length c ∧ wr.ownsRow w.heap.size 90 7 (.slice A L.length c) L.length (olsC L)))) (fun _ x _ => (1 - intOf x).toNat)
  case atStart => exact ⟨Below.refl _ _, .inl ⟨rfl, rfl⟩⟩
  case round =>
    obtain ⟨hbw, hrel⟩ := hrel
    have hsz := B1.size
    have hsw := hbw.size
    rcases hrel with ⟨rfl, rfl⟩ | ⟨rfl, A, c, rfl, hrow⟩
    · have hc := (hbw.cell (p := ⟨g, 0, none⟩) hg2).trans HC0.out
      have ta := ta_one
      have me := me_one
      have B2 := bel_alloc hbw (.cells #[.int .i64 0, .int .i64 0, .int .i64 0, .int .i64 0, .int .i64 0, .string ⟨#[]⟩, .string ⟨#[]⟩] 125)
      go_wp2_with fail
      (with_reducible refine (HX.out _).mono ?_)
      rintro e w2 ⟨A2, c2, rfl, ho2, hb2⟩
      have B3 := bel_step B2 hb2
      have hs3 := B3.size
      have HR := Lib.hid (Rw.of_own ho2)
      clear hb2 hc
      go_wp2_with fail
      go_loopw [3, 30] (fun y x wr => ∃ (j : Nat) (A : Option Addr) (c : Nat), y = .slice A j c ∧ x = .int .i64 (j : Int) ∧ j ≤ L.length ∧ Below w2.heap.size w2 wr ∧ wr.ownsRow w2.heap.size 90 7 (.slice A j c) j (olsC (L.take j))) (fun _ x _ => L.length - (intOf x).toNat)
      case atStart => exact ⟨0, none, 0, rfl, rfl, by omega, Below.refl _ _, World.ownsRow_nil _ _ _ _⟩
      case round =>
        obtain ⟨j, A, c, rfl, rfl, hj, hb4, hrow⟩ := hrel
        have hb5 := bel_step B3 hb4
        have hs5 := hb5.size
        have hs4 := hb4.size
        by_cases hlt : j < L.length
        · obtain ⟨o, ho⟩ : ∃ o, L[j]? = some o := ⟨_, List.getElem?_eq_getElem hlt⟩
          have htk := Lib.hid (show olsC (L.take (j + 1)) = olsC (L.take j) ++ olC o by rw [List.take_add_one, ho]; exact olsC_snoc _ _)
          rcases HR.out with h0 | ⟨g2, rfl, hg2', hcl⟩
          · omega
          have hc0 := hcl j (lfO o) (by rw [List.getElem?_map, ho]; rfl)
          have hc := (hb4.cell (p := ⟨g2, j, none⟩) hg2').trans hc0
          simp only [lfO, lfTwo, OC] at hc
          obtain ⟨ov, ok, oa, ob, on, os, ot⟩ := o
          simp only at hc
          have ta2 := ta_two_p
          have hR := lit_reads wr 90 #[.int .i64 ov, .int .i64 ok, .int .i64 oa, .int .i64 ob, .int .i64 on, .string ⟨os.toArray⟩, .string ⟨ot.toArray⟩] 7 1 wr.heap.size rfl rfl
          have hone := olC_one ⟨ov, ok, oa, ob, on, os, ot⟩
          have B6 := (Below.refl wr.heap.size wr).alloc (Nat.le_refl _) (.cells #[.int .i64 ov, .int .i64 ok, .int .i64 oa, .int .i64 ob, .int .i64 on, .string ⟨os.toArray⟩, .string ⟨ot.toArray⟩] 90)
          have hrow6 := own_below hrow B6
          clear hc0 hcl ho hrow
          go_wp2_with (at_builtin; refine wpList_app _ iOlds rfl rfl rfl hrow6 rfl hR hone (by unfold maxLen; omega) (by omega) (by simp; omega) ?_; intro A' c' w' h2 h3 _)
          have B7 : Below w2.heap.size w2 w' := (bel_step hb4 B6).trans ((Below.refl _ _).grown h3 (by simp; omega) (fun k hk => by have := (World.ownsRow.lt hrow6 k hk).1; omega))
          go_roundw
          case rel => exact ⟨j + 1, A', c', rfl, by go_num, by omega, B7, by rw [htk.out]; exact h2⟩
          case measure => simp [intOf]; omega
        · obtain rfl : j = L.length := by omega
          rw [List.take_of_length_le (Nat.le_refl _)] at hrow
          go_wp2_with fail
          go_roundw
          case rel => exact ⟨hb5, .inr ⟨rfl, A, c, rfl, own_mono hrow (by omega)⟩⟩
          case measure => simp [intOf]
    · go_wp2_with fail
      go_ret
      exact RetRow.of rfl hrow (bel_step B1 hbw)
theorem second_any (o : Ol) (w : World) (hs : o.s.length ≤ 10000) (ht : o.t.length ≤ 10000) (hN : Nms w) : Calls Tryz.prog 90 #[.agg (OC o.v o.k o.a o.b o.n o.s o.t)] w (RetOl w (secondO o).length (olsC (secondO o))) := by
  obtain ⟨v, k, a, b, n, s, t⟩ := o
  simp only at hs ht ⊢
  unfold secondO
  cases hok : Ol.ok ⟨v, k, a, b, n, s, t⟩ with
  | false =>
    rw [if_neg (by decide)]
    exact second_no v k a b n s t w hs ht hN hok
  | true =>
    rw [if_pos rfl]
    by_cases h1 : v = 1
    · rw [if_pos h1]
      subst h1
      exact second_one k a b n s t w hs ht hN hok
    · rw [if_neg h1]
      exact second_two v k a b n s t w hs ht hN hok h1
theorem secondO_len (o : Ol) : (secondO o).length ≤ 2 := by
  unfold secondO
  split
  · split
    · exact oneO_len _ _ _ _ _ _
    · simp
  · simp
end Go.Proofs.YtfepinnfhcjopaaGreatDoor
end
