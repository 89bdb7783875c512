/-
  text, kind, close: tokens handed back.
-/
import Derived.Test.YtnagckdaleafdaaXmI
namespace Go.Proofs.Ytnagckdaleafdaa
open Go.RowKit Go.Nst
set_option maxRecDepth 100000
set_option linter.unusedVariables false
set_option linter.unusedSimpArgs false

/-- tokens handed back, in new blocks -/
def RetTx (w : World) (ts : List Xtk) (e : Ending) (w' : World) : Prop := ∃ A n c, e = .returned (.slice A n c) ∧ XtA w' (fun b => w.heap.size ≤ b) A n ts ∧ n ≤ c ∧ c ≤ 9223372036854775807 ∧ Below w.heap.size w w'
/-- .. by the reader g -/
def RetTk (w : World) (g : Nat) (ts : List Xtk) (s : XS) (e : Ending) (w' : World) : Prop := ∃ A n c, e = .returned (.slice A n c) ∧ XtA w' (fun b => w.heap.size ≤ b) A n ts ∧ n ≤ c ∧ c ≤ 9223372036854775807 ∧ XrB w' g s.1 s.2 ∧ w.grownBy w' (some g)
theorem xt_plain {w : World} {S : Nat → Prop} (k : Int) (n x : List UInt8) (hk : -9223372036854775808 ≤ k ∧ k ≤ 9223372036854775807) (hn : n.length ≤ 9223372036854775807) (hx : x.length ≤ 9223372036854775807) : XtP w S #[.int .i64 k, .string ⟨n.toArray⟩, .slice none 0 0, .string ⟨x.toArray⟩] ⟨k, n, [], x⟩ :=
  ⟨none, 0, rfl, hk, hn, hx, Nat.le_refl _, by omega, RwA.nil _⟩
/-- a literal of one token, in a new block -/
theorem xt_lit {w : World} {vs : Array Value} {t : Xtk} {B : Nat} (hB : B ≤ w.heap.size) (h : XtP w (fun b => B ≤ b) vs t) : XtA (w.alloc (.cells vs 36)) (fun b => B ≤ b) (some ⟨w.heap.size, 0, none⟩) 1 [t] :=
  (RwR.lit (e := 36) xtP h).at_ (fun b off e => by injection e with e; injection e with e; exact e ▸ hB)
theorem text8_any (l : List UInt8) (w : World) (hl : l.length ≤ 1000000) : Calls Try.prog 34 #[.string ⟨l.toArray⟩] w (RetTx w [⟨3, [], [], l⟩]) := by
  have HX : Hid (XtA (w.alloc (.cells #[.int .i64 3, .string ⟨#[]⟩, .slice none 0 0, .string ⟨l.toArray⟩] 36)) (fun b => w.heap.size ≤ b) (some ⟨w.heap.size, 0, none⟩) 1 [⟨3, [], [], l⟩]) := Lib.hid (xt_lit (Nat.le_refl _) (xt_plain 3 [] l (by omega) (by simp) (by omega)))
  go_enter Try.func34, Try.ntmps34
  go_wp2_with fail
  go_ret
  exact ⟨_, _, _, rfl, HX.out, Nat.le_refl _, by omega, bel_alloc (Below.refl _ _) _⟩
def cKind (s : XS) : XS := ((cUpto [62] s).2.1, decide ((91 : UInt8) ∈ (cUpto [62] s).1) || (cUpto [62] s).2.2)
theorem kind8_any (g : Nat) (s : XS) (w : World) (hB : XrB w g s.1 s.2) (hl : s.1.length ≤ 100000) (hM : ML w) :
    Calls Try.prog 33 #[.pointer (some ⟨g, 0, none⟩)] w fun e w' => e = .returned (.slice none 0 0) ∧ XrB w' g (cKind s).1 (cKind s).2 ∧ w.grownBy w' (some g) := by
  have HC := Lib.hid (upto8_any g [62] s w hB (by omega) hM)
  unfold cKind
  generalize cUpto [62] s = r at *
  obtain ⟨x, l2, b2⟩ := r
  simp only at HC ⊢
  have HH := Lib.hid (fun W => has_one x 91 W)
  clear hB hM
  generalize decide ((91 : UInt8) ∈ x) = d at *
  cases d with
  | true =>
    go_enter Try.func33, Try.ntmps33
    go_wp2_with fail
    (with_reducible refine (HC.out).mono ?_)
    rintro e w2 ⟨rfl, h1, h2⟩
    have c1 := Blk.cell h1 1
    simp at c1
    have hfz := Blk.frozen h1
    have H1 := Lib.hid h1
    clear h1
    go_wp2_with fail
    (with_reducible refine (HH.out _).mono ?_)
    rintro e w3 ⟨rfl, rfl⟩
    go_wp2_with fail
    go_ret
    exact ⟨rfl, by have := Blk.set_ H1.out 1 (.bool true); simpa [XrB] using this, only_setCell h2 (.inl rfl) _⟩
  | false =>
    go_enter Try.func33, Try.ntmps33
    go_wp2_with fail
    (with_reducible refine (HC.out).mono ?_)
    rintro e w2 ⟨rfl, h1, h2⟩
    have c1 := Blk.cell h1 1
    simp at c1
    have hfz := Blk.frozen h1
    have H1 := Lib.hid h1
    clear h1
    go_wp2_with fail
    (with_reducible refine (HH.out _).mono ?_)
    rintro e w3 ⟨rfl, rfl⟩
    go_wp2_with fail
    go_ret
    exact ⟨rfl, by have := Blk.set_ H1.out 1 (.bool b2); simpa [XrB] using this, only_setCell h2 (.inl rfl) _⟩
end Go.Proofs.Ytnagckdaleafdaa
