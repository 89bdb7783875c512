/-
  The run with which each statement on tokens begins.
-/
import Derived.Test.YtnagckdaleafdaaXnE
import Derived.Test.YtnagckdaleafdaaXmZ
namespace Go.Proofs.Ytnagckdaleafdaa
open Go.ChangeShapes Go.WideShapes Go.ChangeAt Go.Deep
open Go.RowKit Go.Nst
set_option maxRecDepth 100000
set_option linter.unusedVariables false
set_option linter.unusedSimpArgs false

def wantX : List Xtk := [⟨1, [97], [⟨[98], [49]⟩], []⟩, ⟨3, [], [], [120, 121]⟩, ⟨1, [99], [], []⟩, ⟨2, [99], [], []⟩, ⟨2, [97], [], []⟩]
theorem lx1 : tokD [60, 97, 32, 98, 61, 34, 49, 34, 62, 120, 60, 33, 45, 45, 32, 45, 45, 62, 121, 60, 99, 47, 62, 60, 47, 97, 62] = (wantX, 27, 0) := by decide +kernel
theorem lx2 : (tokD [60, 97, 62, 60, 47, 98, 62, 60, 99, 32, 100, 62]).2 = (7, 80) := by decide +kernel
theorem lx3 : wrV wantX = .tuple #[.string ⟨#[60, 97, 32, 98, 61, 34, 49, 34, 62, 120, 121, 60, 99, 62, 60, 47, 99, 62, 60, 47, 97, 62]⟩, .int .i64 0] := by
  have h1 : mayD 0 wantX = true := by decide +kernel
  have h2 : wrD wantX = [60, 97, 32, 98, 61, 34, 49, 34, 62, 120, 121, 60, 99, 62, 60, 47, 99, 62, 60, 47, 97, 62] := by decide +kernel
  rw [wrV, if_pos h1, h2]
theorem lx5 : wrV [⟨0, [], [], []⟩] = .tuple #[.string ⟨#[]⟩, .int .i64 1] := by
  have h1 : ¬ mayD 0 [⟨0, [], [], []⟩] = true := by decide +kernel
  rw [wrV, if_neg h1]
theorem lx6 : isName [120, 58, 121] = true := by decide +kernel
theorem lx7 : isName [49, 120] = false := by decide +kernel
theorem sm_want : SmL wantX := by
  refine ⟨by decide, fun t ht => ?_⟩
  simp only [wantX, List.mem_cons, List.not_mem_nil, or_false] at ht
  rcases ht with rfl | rfl | rfl | rfl | rfl <;> refine ⟨by simp, by simp, by simp, fun a ha => ?_⟩ <;> simp at ha
  subst ha
  simp
theorem sm_nix : SmL [⟨0, [], [], []⟩] := by
  refine ⟨by decide, fun t ht => ?_⟩
  simp only [List.mem_cons, List.not_mem_nil, or_false] at ht
  subst ht
  exact ⟨by simp, by simp, by simp, by simp⟩
/-- a literal of several elements -/
theorem rw_lit {α : Type} {sz : Nat} {P : World → (Nat → Prop) → Array Value → α → Prop} {W : World} {S : Nat → Prop} {e : TypeId} (hP : ElP sz P) (V : Nat → Array Value) (n : Nat) (cs : Array Value) (l : List α) (hcs : cs.toList = rowZ V n) (hl : l.length = n) (hq : ∀ (i : Nat) (x : α), l[i]? = some x → P W S (V i) x) {g : Nat} (hg : W.heap.size = g) (hS : S g) :
    RwA sz P (W.alloc (.cells cs e)) S (some ⟨g, 0, none⟩) n l := by
  subst hg
  have hs : ∀ i, i < n → (V i).size = sz := fun i hi => hP.size (hq i _ (List.getElem?_eq_getElem (show i < l.length by omega)))
  refine ⟨hl, V, fun _ => ⟨_, _, rfl, hS, by simp, fun i j u hi hu => ?_⟩, fun i q hi => hP.bel (hq i q hi) (bel_alloc (Below.refl _ _) _)⟩
  have hj : j < sz := by
    rcases Nat.lt_or_ge j sz with h | h
    · exact h
    · rw [Array.getElem?_eq_none (by rw [hs i hi]; exact h)] at hu; cases hu
  rw [show 0 + i * sz + j = i * sz + j by omega, (Blk.new W e cs).cell, ← Array.getElem?_toList, hcs, rowZ_get V n hs i j hi hj]
  exact hu
theorem xtP_lit {W : World} {S : Nat → Prop} {t : Xtk} {A : Option Addr} {c : Nat} (hk : -9223372036854775808 ≤ t.kd ∧ t.kd ≤ 9223372036854775807) (h1 : t.nm.length ≤ 9223372036854775807) (h2 : t.tx.length ≤ 9223372036854775807) (h3 : t.ats.length ≤ c ∧ c ≤ 9223372036854775807) (hA : XaA W S A t.ats.length t.ats) :
    XtP W S (xtV t A t.ats.length c) t := ⟨A, c, rfl, hk, h1, h2, h3.1, h3.2, hA⟩
def aX : Array Value := #[.string ⟨#[98]⟩, .string ⟨#[49]⟩]
def cX (g : Nat) : Array Value := #[.int .i64 1, .string ⟨#[97]⟩, .slice (some ⟨g, 0, none⟩) 1 1, .string ⟨#[]⟩, .int .i64 3, .string ⟨#[]⟩, .slice none 0 0, .string ⟨#[120, 121]⟩, .int .i64 1, .string ⟨#[99]⟩, .slice none 0 0, .string ⟨#[]⟩, .int .i64 2, .string ⟨#[99]⟩, .slice none 0 0, .string ⟨#[]⟩, .int .i64 2, .string ⟨#[97]⟩, .slice none 0 0, .string ⟨#[]⟩]
theorem want_at (W : World) : XtA ((W.alloc (.cells aX 39)).alloc (.cells (cX W.heap.size) 36)) (fun _ => True) (some ⟨W.heap.size + 1, 0, none⟩) 5 wantX := by
  have hA : XaA (W.alloc (.cells aX 39)) (fun _ => True) (some ⟨W.heap.size, 0, none⟩) 1 [⟨[98], [49]⟩] := by
    refine rw_lit xaP (fun _ => aX) 1 aX _ (by simp [rowZ]) rfl (fun i x hi => ?_) rfl trivial
    match i, hi with
    | 0, hi =>
      simp only [List.getElem?_cons_zero, Option.some.injEq] at hi
      subst hi
      exact ⟨rfl, by simp, by simp⟩
    | k + 1, hi => simp at hi
  refine rw_lit xtP (fun i => match i with
    | 0 => xtV ⟨1, [97], [⟨[98], [49]⟩], []⟩ (some ⟨W.heap.size, 0, none⟩) 1 1
    | 1 => xtV ⟨3, [], [], [120, 121]⟩ none 0 0
    | 2 => xtV ⟨1, [99], [], []⟩ none 0 0
    | 3 => xtV ⟨2, [99], [], []⟩ none 0 0
    | _ => xtV ⟨2, [97], [], []⟩ none 0 0) 5 _ _ rfl rfl (fun i x hi => ?_) (by simp) trivial
  match i, hi with
  | 0, hi =>
    simp only [wantX, List.getElem?_cons_zero, List.getElem?_cons_succ, Option.some.injEq] at hi
    subst hi
    exact xtP_lit (by simp) (by simp) (by simp) (by simp) hA
  | 1, hi =>
    simp only [wantX, List.getElem?_cons_zero, List.getElem?_cons_succ, Option.some.injEq] at hi
    subst hi
    exact xtP_lit (by simp) (by simp) (by simp) (by simp) (RwA.nil _)
  | 2, hi =>
    simp only [wantX, List.getElem?_cons_zero, List.getElem?_cons_succ, Option.some.injEq] at hi
    subst hi
    exact xtP_lit (by simp) (by simp) (by simp) (by simp) (RwA.nil _)
  | 3, hi =>
    simp only [wantX, List.getElem?_cons_zero, List.getElem?_cons_succ, Option.some.injEq] at hi
    subst hi
    exact xtP_lit (by simp) (by simp) (by simp) (by simp) (RwA.nil _)
  | 4, hi =>
    simp only [wantX, List.getElem?_cons_zero, List.getElem?_cons_succ, Option.some.injEq] at hi
    subst hi
    exact xtP_lit (by simp) (by simp) (by simp) (by simp) (RwA.nil _)
  | k + 5, hi => simp [wantX] at hi
theorem nix_at (W : World) : XtA (W.alloc (.cells #[.int .i64 0, .string ⟨#[]⟩, .slice none 0 0, .string ⟨#[]⟩] 36)) (fun _ => True) (some ⟨W.heap.size, 0, none⟩) 1 [⟨0, [], [], []⟩] := by
  refine rw_lit xtP (fun _ => xtV ⟨0, [], [], []⟩ none 0 0) 1 _ _ rfl rfl (fun i x hi => ?_) rfl trivial
  match i, hi with
  | 0, hi =>
    simp only [List.getElem?_cons_zero, Option.some.injEq] at hi
    subst hi
    exact xtP_lit (by simp) (by simp) (by simp) (by simp) (RwA.nil _)
  | k + 1, hi => simp at hi
theorem bel_two (w : World) (o p : Obj) : Below w.heap.size w ((w.alloc o).alloc p) := bel_alloc (bel_alloc (Below.refl _ _) _) _
set_option maxHeartbeats 4000000 in
theorem lives08_any (w : World) (hM : ML w) : Calls Try.prog 7 #[] w (RetTrue w) := by
  go_enter Try.func7, Try.ntmps7
  go_wp2_with fail
  (with_reducible refine (Tokens8_any [60, 97, 32, 98, 61, 34, 49, 34, 62, 120, 60, 33, 45, 45, 32, 45, 45, 62, 121, 60, 99, 47, 62, 60, 47, 97, 62] w hM (by decide)).mono ?_)
  rw [lx1]
  rintro e w1 ⟨A, n, c, he, HA, hn1, hn2, B1⟩
  simp only at he HA
  subst he
  have HA1 := Lib.hid HA
  have HN := Lib.hid HA.len
  clear HA
  go_wp2_with fail
  (with_reducible refine (Tokens8_any [60, 97, 62, 60, 47, 98, 62, 60, 99, 32, 100, 62] w1 (hM.below B1) (by decide)).mono ?_)
  rintro e w2 ⟨A2, m2, c2, he, -, -, -, hb⟩
  rw [lx2] at he
  simp only at he
  subst he
  have B2 := bel_step B1 hb
  have HA2 := Lib.hid (HA1.out.bel xtP hb)
  clear hb HA1 B1
  have HW := want_at w2
  have hb := bel_two w2 (.cells aX 39) (.cells (cX w2.heap.size) 36)
  have HA3 := Lib.hid (HA2.out.bel xtP hb)
  have B3 := bel_step B2 hb
  have HC := Write8_any wantX _ 5 5 _ _ HW (by omega) sm_want
  rw [lx3] at HC
  simp only [aX, cX] at HW hb HA3 B3 HC
  have HW3 := Lib.hid HW
  have HC := Lib.hid HC
  clear HW hb HA2 B2
  go_wp2_with fail
  have hdw : decide (wantX = wantX) = true := by simp
  have h6 := lx6
  have h7 := lx7
  go_wp2_with fail
  (with_reducible refine (HC.out).mono ?_)
  rintro e w4 ⟨rfl, hb⟩
  have B4 := bel_step B3 hb
  have HA4 := Lib.hid (HA3.out.bel xtP hb)
  have HW4 := Lib.hid (HW3.out.bel xtP hb)
  clear hb HA3 HW3 B3 HC
  have HN2 := nix_at w4
  have hb := bel_alloc (Below.refl w4.heap.size w4) (.cells #[.int .i64 0, .string ⟨#[]⟩, .slice none 0 0, .string ⟨#[]⟩] 36)
  have HA5 := Lib.hid (HA4.out.bel xtP hb)
  have HW5 := Lib.hid (HW4.out.bel xtP hb)
  have B5 := bel_step B4 hb
  have HC2 := Write8_any [⟨0, [], [], []⟩] _ 1 1 _ _ HN2 (by omega) sm_nix
  rw [lx5] at HC2
  have HC2 := Lib.hid HC2
  clear hb HN2 HA4 HW4 B4
  go_wp2_with fail
  (with_reducible refine (HC2.out).mono ?_)
  rintro e w6 ⟨rfl, hb⟩
  have B6 := bel_step B5 hb
  have HA6 := Lib.hid (HA5.out.bel xtP hb)
  have HW6 := Lib.hid (HW5.out.bel xtP hb)
  clear hb HA5 HW5 B5 HC2
  go_wp2_with fail
  (with_reducible refine (refSame8_any wantX wantX A _ n 5 c 5 _ _ _ HA6.out HW6.out ⟨hn1, hn2⟩ (by omega)).mono ?_)
  rintro e w7 ⟨rfl, hb⟩
  have B7 := bel_step B6 hb
  have HA7 := Lib.hid (HA6.out.bel xtP hb)
  have HW7 := Lib.hid (HW6.out.bel xtP hb)
  clear hb HA6 HW6 B6
  go_wp2_with fail
  (with_reducible refine (Name8_any [120, 58, 121] _ (by decide)).mono ?_)
  rintro e w8 ⟨rfl, hb⟩
  have B8 := bel_step B7 hb
  have HA8 := Lib.hid (HA7.out.bel xtP hb)
  have HW8 := Lib.hid (HW7.out.bel xtP hb)
  clear hb HA7 HW7 B7
  go_wp2_with fail
  (with_reducible refine (Name8_any [49, 120] _ (by decide)).mono ?_)
  rintro e w9 ⟨rfl, hb⟩
  have B9 := bel_step B8 hb
  have HA9 := Lib.hid (HA8.out.bel xtP hb)
  have HW9 := Lib.hid (HW8.out.bel xtP hb)
  clear hb HA8 HW8 B8
  go_wp2_with fail
  (with_reducible refine (Same8_any wantX wantX A _ n 5 c 5 _ _ _ HA9.out HW9.out ⟨hn1, hn2⟩ (by omega)).mono ?_)
  rintro e w10 ⟨rfl, hb⟩
  go_wp2_with fail
  go_ret
  exact ⟨by simp, bel_step B9 hb⟩
end Go.Proofs.Ytnagckdaleafdaa
