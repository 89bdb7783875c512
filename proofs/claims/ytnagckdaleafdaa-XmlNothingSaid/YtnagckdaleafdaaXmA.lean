/-
  Attributes and tokens in memory.
-/
import Derived.Test.YtnagckdaleafdaaXmW
import Derived.Test.YtnagckdaleafdaaRwx
namespace Go.Proofs.Ytnagckdaleafdaa
open Go.ChangeShapes Go.WideShapes Go.ChangeAt Go.Deep
open Go.RowKit Go.Nst
set_option maxRecDepth 100000
set_option linter.unusedVariables false
set_option linter.unusedSimpArgs false

/-- the cells of an attribute -/
def xaV (a : Xat) : Array Value := #[.string ⟨a.nm.toArray⟩, .string ⟨a.vl.toArray⟩]
def XaP (w : World) (S : Nat → Prop) (v : Array Value) (a : Xat) : Prop := v = xaV a ∧ a.nm.length ≤ 9223372036854775807 ∧ a.vl.length ≤ 9223372036854775807
theorem xaP : ElP 2 XaP where
  pos := by omega
  size := by rintro w S v x ⟨rfl, _⟩; rfl
  one := by
    rintro w S v x ⟨rfl, _⟩ u hu
    simp only [xaV, List.mem_cons, List.not_mem_nil, or_false] at hu
    rcases hu with rfl | rfl <;> rfl
  keep := by rintro w w' S S' v x _ _ _ h; exact h
/-- the cells of a token -/
def xtV (t : Xtk) (A : Option Addr) (n c : Nat) : Array Value := #[.int .i64 t.kd, .string ⟨t.nm.toArray⟩, .slice A n c, .string ⟨t.tx.toArray⟩]
def XtP (w : World) (S : Nat → Prop) (v : Array Value) (t : Xtk) : Prop := ∃ A c, v = xtV t A t.ats.length c ∧ (-9223372036854775808 ≤ t.kd ∧ t.kd ≤ 9223372036854775807) ∧ t.nm.length ≤ 9223372036854775807 ∧ t.tx.length ≤ 9223372036854775807 ∧ t.ats.length ≤ c ∧ c ≤ 9223372036854775807 ∧ RwA 2 XaP w S A t.ats.length t.ats
theorem xtP : ElP 4 XtP where
  pos := by omega
  size := by rintro w S v x ⟨A, c, rfl, _⟩; rfl
  one := by
    rintro w S v x ⟨A, c, rfl, _⟩ u hu
    simp only [xtV, List.mem_cons, List.not_mem_nil, or_false] at hu
    rcases hu with rfl | rfl | rfl | rfl <;> rfl
  keep := by
    rintro w w' S S' v x h1 h2 h3 ⟨A, c, rfl, hk, hn, ht, hc, hm, hA⟩
    exact ⟨A, c, rfl, hk, hn, ht, hc, hm, hA.keep xaP h1 h2 h3⟩
abbrev XaA := RwA 2 XaP
abbrev XaR := RwR 2 XaP
abbrev XaO := RwO 39 2 XaP
abbrev XtA := RwA 4 XtP
abbrev XtR := RwR 4 XtP
abbrev XtO := RwO 36 4 XtP
theorem iXas : Info Try.prog 34 39 (.agg #[.string ⟨#[]⟩, .string ⟨#[]⟩]) 2 32 := Info.mk_ Try.underlying34 (by kernel_rfl) rfl (by omega)
theorem iXts : Info Try.prog 23 36 (.agg #[.int .i64 0, .string ⟨#[]⟩, .slice none 0 0, .string ⟨#[]⟩]) 4 64 := Info.mk_ Try.underlying23 (by kernel_rfl) rfl (by omega)
/-- an attribute that came in -/
theorem open_xa {H : Type} {enc : TypeId × Value → H} {W : World} (n : Nat) (cs : List Value) (y : DataW H × List MemPlace) (h : DataW.trod enc Try.prog W 0 (fun _ => true) true n 39 cs = some y) : ∃ x, XaP W (fun _ => True) cs.toArray x := by
  obtain ⟨xs, m, hm, _, hlen, hxl, hf⟩ := DataW.trod_struct Try.underlying39 h
  have hC : Try.prog.cellsOf 39 = 2 := by kernel_rfl
  rw [hC] at hlen
  obtain ⟨c0, c1, rfl⟩ : ∃ c0 c1, cs = [c0, c1] := by
    match cs, hlen with
    | [c0, c1], _ => exact ⟨c0, c1, rfl⟩
  have hst : Try.prog.cellsOf 9 = 1 := by kernel_rfl
  match xs, hxl with
  | [y0, y1], _ =>
    have t0 := hf 0 _ rfl
    have t1 := hf 1 _ rfl
    simp only [hst, List.drop_zero, List.drop_succ_cons, List.take_succ_cons, List.take_zero, List.getElem?_cons_zero, List.getElem?_cons_succ] at t0 t1
    obtain ⟨s, e0, _, b0⟩ := DataW.trod_string Try.underlying9 t0
    obtain ⟨u, e1, _, b1⟩ := DataW.trod_string Try.underlying9 t1
    injection e0 with e0
    injection e1 with e1
    subst e0
    subst e1
    refine ⟨⟨s.data.toList, u.data.toList⟩, by simp [xaV], ?_, ?_⟩
    · have : s.data.toList.length = s.size := Array.length_toList
      unfold maxLen at b0; show s.data.toList.length ≤ _; omega
    · have : u.data.toList.length = u.size := Array.length_toList
      unfold maxLen at b1; show u.data.toList.length ≤ _; omega
/-- a token that came in -/
theorem open_xt {H : Type} {enc : TypeId × Value → H} {W : World} (n : Nat) (cs : List Value) (y : DataW H × List MemPlace) (h : DataW.trod enc Try.prog W 0 (fun _ => true) true n 36 cs = some y) : ∃ x, XtP W (fun _ => True) cs.toArray x := by
  obtain ⟨xs, m, hm, _, hlen, hxl, hf⟩ := DataW.trod_struct Try.underlying36 h
  have hC : Try.prog.cellsOf 36 = 4 := by kernel_rfl
  rw [hC] at hlen
  obtain ⟨c0, c1, c2, c3, rfl⟩ : ∃ c0 c1 c2 c3, cs = [c0, c1, c2, c3] := by
    match cs, hlen with
    | [c0, c1, c2, c3], _ => exact ⟨c0, c1, c2, c3, rfl⟩
  have hi : Try.prog.cellsOf 3 = 1 := by kernel_rfl
  have hst : Try.prog.cellsOf 9 = 1 := by kernel_rfl
  have hsl : Try.prog.cellsOf 34 = 1 := by kernel_rfl
  match xs, hxl with
  | [y0, y1, y2, y3], _ =>
    have t0 := hf 0 _ rfl
    have t1 := hf 1 _ rfl
    have t2 := hf 2 _ rfl
    have t3 := hf 3 _ rfl
    simp only [hi, hst, hsl, List.drop_zero, List.drop_succ_cons, List.take_succ_cons, List.take_zero, List.getElem?_cons_zero, List.getElem?_cons_succ] at t0 t1 t2 t3
    obtain ⟨o, e0, _, b0⟩ := DataW.trod_int Try.underlying3 t0
    obtain ⟨s, e1, _, b1⟩ := DataW.trod_string Try.underlying9 t1
    obtain ⟨A, k, c, l, e2, hkc, hc, hA⟩ := open_rows Try.underlying34 (by kernel_rfl) xaP open_xa t2
    obtain ⟨u, e3, _, b3⟩ := DataW.trod_string Try.underlying9 t3
    injection e0 with e0
    injection e1 with e1
    injection e3 with e3
    subst e0
    subst e1
    subst e2
    subst e3
    have hl := hA.len
    subst hl
    refine ⟨⟨o, s.data.toList, l, u.data.toList⟩, A, c, by simp [xtV], bounds_i64 b0, ?_, ?_, hkc, hc, hA⟩
    · have : s.data.toList.length = s.size := Array.length_toList
      unfold maxLen at b1; show s.data.toList.length ≤ _; omega
    · have : u.data.toList.length = u.size := Array.length_toList
      unfold maxLen at b3; show u.data.toList.length ≤ _; omega
/-- a list of tokens that came in -/
theorem open_tokens {H : Type} {enc : TypeId × Value → H} {W : World} {base : Nat} {v : Value} {d : DataW H} {p : List MemPlace} (hv : Value.okWide Try.prog W .any base 23 v) (h0 : DataW.Trod enc Try.prog W 0 (fun _ => true) true 23 v d p) :
    ∃ A k c l, v = .slice A k c ∧ k ≤ c ∧ c ≤ 9223372036854775807 ∧ XtA W (fun _ => True) A k l := by
  obtain ⟨a0, len0, cap0, rfl⟩ := okWide_slice Try.underlying23 hv
  obtain ⟨fuel, hf⟩ := h0
  exact open_rows Try.underlying23 (by kernel_rfl) xtP open_xt hf
section
variable {w w' : World} {S S' : Nat → Prop} {A : Option Addr} {k n c base : Nat}
/-- the i-th attribute -/
theorem xa_at {l : List Xat} (h : XaA w S A k l) {i : Nat} (hi : i < k) : ∃ (a : Xat) (b off : Nat), Hid (l[i]? = some a) ∧ A = some ⟨b, off, none⟩ ∧ S b ∧ b < w.heap.size ∧ a.nm.length ≤ 9223372036854775807 ∧ a.vl.length ≤ 9223372036854775807 ∧
    w.cell? ⟨b, off + i * 2, none⟩ = some (.string ⟨a.nm.toArray⟩) ∧ w.cell? ⟨b, off + i * 2 + 1, none⟩ = some (.string ⟨a.vl.toArray⟩) := by
  obtain ⟨a, v, b, off, h1, h2, h3, h4, ⟨rfl, h5, h6⟩, h7⟩ := h.get hi
  exact ⟨a, b, off, h1, h2, h3, h4, h5, h6, h7 0 _ rfl, h7 1 _ rfl⟩
/-- the i-th token -/
theorem xt_at {l : List Xtk} (h : XtA w S A k l) {i : Nat} (hi : i < k) : ∃ (t : Xtk) (B : Option Addr) (d b off : Nat), Hid (l[i]? = some t) ∧ A = some ⟨b, off, none⟩ ∧ S b ∧ b < w.heap.size ∧ Hid (XtP w S (xtV t B t.ats.length d) t) ∧ (-9223372036854775808 ≤ t.kd ∧ t.kd ≤ 9223372036854775807) ∧ t.nm.length ≤ 9223372036854775807 ∧ t.tx.length ≤ 9223372036854775807 ∧ t.ats.length ≤ d ∧ d ≤ 9223372036854775807 ∧ Hid (XaA w S B t.ats.length t.ats) ∧
    w.cell? ⟨b, off + i * 4, none⟩ = some (.int .i64 t.kd) ∧ w.cell? ⟨b, off + i * 4 + 1, none⟩ = some (.string ⟨t.nm.toArray⟩) ∧ w.cell? ⟨b, off + i * 4 + 2, none⟩ = some (.slice B t.ats.length d) ∧ w.cell? ⟨b, off + i * 4 + 3, none⟩ = some (.string ⟨t.tx.toArray⟩) := by
  obtain ⟨t, v, b, off, h1, h2, h3, h4, hP, h7⟩ := h.get hi
  obtain ⟨B, d, rfl, k1, k2, k3, k4, k5, k6⟩ := id hP
  exact ⟨t, B, d, b, off, h1, h2, h3, h4, hP, k1, k2, k3, k4, k5, k6, h7 0 _ rfl, h7 1 _ rfl, h7 2 _ rfl, h7 3 _ rfl⟩
end
end Go.Proofs.Ytnagckdaleafdaa
