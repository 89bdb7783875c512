/-
  Elements: the plain tree; in memory.
-/
import Derived.Test.YtjmmgekildlckaaXmA
namespace Go.Proofs.Ytjmmgekildlckaa
open Go.ChangeShapes Go.WideShapes Go.ChangeAt Go.Deep
open Go.RowKit Go.Nst
set_option maxRecDepth 100000
set_option linter.unusedVariables false
set_option linter.unusedSimpArgs false

/-- an element -/
inductive Elm where
  | mk (nm : List UInt8) (ats : List Xat) (tx : List UInt8) (kids : List Elm)
namespace Elm
def nm : Elm → List UInt8 | .mk a _ _ _ => a
def ats : Elm → List Xat | .mk _ a _ _ => a
def tx : Elm → List UInt8 | .mk _ _ a _ => a
def kids : Elm → List Elm | .mk _ _ _ a => a
def zero : Elm := .mk [] [] [] []
end Elm
/-- the four cells of an element -/
def emV (e : Elm) (A : Option Addr) (k c : Nat) (B : Option Addr) (m d : Nat) : Array Value := #[.string ⟨e.nm.toArray⟩, .slice A k c, .string ⟨e.tx.toArray⟩, .slice B m d]
/-- a value reads as an element, all of it in blocks of S, no text too long -/
inductive EmP (w : World) (S : Nat → Prop) : Array Value → Elm → Prop
  | mk {nm tx : List UInt8} {ats : List Xat} {l : List Elm} {A B : Option Addr} {c d : Nat} (V : Nat → Array Value) (hn : nm.length ≤ 1100000) (ht : tx.length ≤ 1100000) (hc : ats.length ≤ c ∧ c ≤ 9223372036854775807) (hd : l.length ≤ d ∧ d ≤ 9223372036854775807)
      (hs : ats.length ≤ 1100000 ∧ l.length ≤ 1100000) (ha : ∀ a ∈ ats, a.nm.length ≤ 1100000 ∧ a.vl.length ≤ 1100000) (hA : RwA 2 XaP w S A ats.length ats)
      (hB : 0 < l.length → ∃ b off, B = some ⟨b, off, none⟩ ∧ S b ∧ b < w.heap.size ∧ ∀ (i j : Nat) (u : Value), i < l.length → (V i)[j]? = some u → w.cell? ⟨b, off + i * 4 + j, none⟩ = some u)
      (hq : ∀ (i : Nat) (q : Elm), l[i]? = some q → EmP w S (V i) q) : EmP w S (emV (.mk nm ats tx l) A ats.length c B l.length d) (.mk nm ats tx l)
theorem emP : ElP 4 EmP where
  pos := by omega
  size := by intro w S v x h; cases h; rfl
  one := by
    intro w S v x h u hu
    cases h
    simp only [emV, List.mem_cons, List.not_mem_nil, or_false] at hu
    rcases hu with rfl | rfl | rfl | rfl <;> rfl
  keep := by
    intro w w' S S' v x h1 h2 h3 h
    induction h with
    | mk V hn ht hc hd hs ha hA hB hq ih =>
      refine .mk V hn ht hc hd hs ha (hA.keep xaP h1 h2 h3) (fun h0 => ?_) ih
      obtain ⟨b, off, e, hb, hlt, hcell⟩ := hB h0
      refine ⟨b, off, e, h3 b hb hlt, by omega, fun i j u hi hu => ?_⟩
      rw [World.cell?_of_block (h1 b hb hlt)]
      exact hcell i j u hi hu
abbrev EmA := RwA 4 EmP
abbrev EmR := RwR 4 EmP
abbrev EmO := RwO 25 4 EmP
theorem iEms : Info Try.prog 23 25 (.agg #[.string ⟨#[]⟩, .slice none 0 0, .string ⟨#[]⟩, .slice none 0 0]) 4 80 := Info.mk_ Try.underlying23 (by kernel_rfl) rfl (by omega)
/-- what holds of an element's cells -/
structure EmF (w : World) (S : Nat → Prop) (e : Elm) (A : Option Addr) (c : Nat) (B : Option Addr) (d : Nat) : Prop where
  hn : e.nm.length ≤ 1100000
  ht : e.tx.length ≤ 1100000
  hc : e.ats.length ≤ c ∧ c ≤ 9223372036854775807
  hd : e.kids.length ≤ d ∧ d ≤ 9223372036854775807
  hs : e.ats.length ≤ 1100000 ∧ e.kids.length ≤ 1100000
  ha : ∀ a ∈ e.ats, a.nm.length ≤ 1100000 ∧ a.vl.length ≤ 1100000
  hA : XaA w S A e.ats.length e.ats
  hB : EmA w S B e.kids.length e.kids
section
variable {w w' : World} {S S' : Nat → Prop} {A : Option Addr} {k n c base : Nat} {v : Array Value} {e : Elm}
theorem em_open (h : EmP w S v e) : ∃ A c B d, v = emV e A e.ats.length c B e.kids.length d ∧ EmF w S e A c B d := by
  cases h with
  | mk V hn ht hc hd hs ha hA hB hq => exact ⟨_, _, _, _, rfl, hn, ht, hc, hd, hs, ha, hA, rfl, V, hB, hq⟩
theorem em_make {A B : Option Addr} {c d : Nat} (h : EmF w S e A c B d) : EmP w S (emV e A e.ats.length c B e.kids.length d) e := by
  obtain ⟨nm, ats, tx, l⟩ := e
  obtain ⟨hn, ht, hc, hd, hs, ha, hA, -, V, hB, hq⟩ := h
  exact .mk V hn ht hc hd hs ha hA hB hq
theorem em_keep {A B : Option Addr} {c d : Nat} (h1 : ∀ b, S b → b < w.heap.size → w'.heap[b]? = w.heap[b]?) (h2 : w.heap.size ≤ w'.heap.size) (h3 : ∀ b, S b → b < w.heap.size → S' b) (h : EmF w S e A c B d) : EmF w' S' e A c B d :=
  ⟨h.hn, h.ht, h.hc, h.hd, h.hs, h.ha, h.hA.keep xaP h1 h2 h3, h.hB.keep emP h1 h2 h3⟩
theorem em_bel {A B : Option Addr} {c d : Nat} (h : EmF w S e A c B d) (hb : Below w.heap.size w w') : EmF w' S e A c B d := em_keep (fun b _ hlt => hb.block b hlt) hb.size (fun _ h _ => h) h
theorem em_wide {A B : Option Addr} {c d : Nat} (h : EmF w S e A c B d) (hS : ∀ b, S b → b < w.heap.size → S' b) : EmF w S' e A c B d := em_keep (fun _ _ _ => rfl) (Nat.le_refl _) hS h
theorem em_zero (A B : Option Addr) (c d : Nat) (hc : c ≤ 9223372036854775807) (hd : d ≤ 9223372036854775807) : EmF w S Elm.zero A c B d := ⟨by simp [Elm.zero, Elm.nm], by simp [Elm.zero, Elm.tx], ⟨Nat.zero_le _, hc⟩, ⟨Nat.zero_le _, hd⟩, ⟨Nat.zero_le _, Nat.zero_le _⟩, by simp [Elm.zero, Elm.ats], RwA.nil _, RwA.nil _⟩
/-- the i-th one -/
theorem em_at {l : List Elm} (h : EmA w S A k l) {i : Nat} (hi : i < k) : ∃ (q : Elm) (A1 : Option Addr) (c : Nat) (B : Option Addr) (d b off : Nat), Hid (l[i]? = some q) ∧ A = some ⟨b, off, none⟩ ∧ S b ∧ b < w.heap.size ∧ Hid (EmP w S (emV q A1 q.ats.length c B q.kids.length d) q) ∧ Hid (EmF w S q A1 c B d) ∧
    w.cell? ⟨b, off + i * 4, none⟩ = some (.string ⟨q.nm.toArray⟩) ∧ w.cell? ⟨b, off + i * 4 + 1, none⟩ = some (.slice A1 q.ats.length c) ∧ w.cell? ⟨b, off + i * 4 + 2, none⟩ = some (.string ⟨q.tx.toArray⟩) ∧ w.cell? ⟨b, off + i * 4 + 3, none⟩ = some (.slice B q.kids.length d) := by
  obtain ⟨q, v, b, off, h1, h2, h3, h4, hP, h7⟩ := h.get hi
  obtain ⟨A1, c, B, d, rfl, hF⟩ := em_open hP
  exact ⟨q, A1, c, B, d, b, off, h1, h2, h3, h4, hP, hF, h7 0 _ rfl, h7 1 _ rfl, h7 2 _ rfl, h7 3 _ rfl⟩
end
section
variable {w w0 : World} {k n : Nat} {t : TypeId} {cs : Array Value}
theorem set3c (h : Blk w k t cs) (hz : cs.size = 3) (a b c : Value) : Blk (((w.setCell ⟨k, 0, none⟩ a).setCell ⟨k, 1, none⟩ b).setCell ⟨k, 2, none⟩ c) k t #[a, b, c] := by
  obtain ⟨c0, c1, c2, rfl⟩ : ∃ c0 c1 c2, cs = #[c0, c1, c2] := by
    obtain ⟨l⟩ := cs
    match l, hz with
    | [c0, c1, c2], _ => exact ⟨c0, c1, c2, rfl⟩
  simpa using ((h.set_ 0 a).set_ 1 b).set_ 2 c
theorem set4c (h : Blk w k t cs) (hz : cs.size = 4) (a b c d : Value) : Blk ((((w.setCell ⟨k, 0, none⟩ a).setCell ⟨k, 1, none⟩ b).setCell ⟨k, 2, none⟩ c).setCell ⟨k, 3, none⟩ d) k t #[a, b, c, d] := by
  obtain ⟨c0, c1, c2, c3, rfl⟩ : ∃ c0 c1 c2 c3, cs = #[c0, c1, c2, c3] := by
    obtain ⟨l⟩ := cs
    match l, hz with
    | [c0, c1, c2, c3], _ => exact ⟨c0, c1, c2, c3, rfl⟩
  simpa using (((h.set_ 0 a).set_ 1 b).set_ 2 c).set_ 3 d
theorem set5c (h : Blk w k t cs) (hz : cs.size = 5) (a b c d e : Value) : Blk (((((w.setCell ⟨k, 0, none⟩ a).setCell ⟨k, 1, none⟩ b).setCell ⟨k, 2, none⟩ c).setCell ⟨k, 3, none⟩ d).setCell ⟨k, 4, none⟩ e) k t #[a, b, c, d, e] := by
  obtain ⟨c0, c1, c2, c3, c4, rfl⟩ : ∃ c0 c1 c2 c3 c4, cs = #[c0, c1, c2, c3, c4] := by
    obtain ⟨l⟩ := cs
    match l, hz with
    | [c0, c1, c2, c3, c4], _ => exact ⟨c0, c1, c2, c3, c4, rfl⟩
  simpa using ((((h.set_ 0 a).set_ 1 b).set_ 2 c).set_ 3 d).set_ 4 e
theorem bel3c (h : Below n w0 w) (hk : n ≤ k) (a b c : Value) : Below n w0 (((w.setCell ⟨k, 0, none⟩ a).setCell ⟨k, 1, none⟩ b).setCell ⟨k, 2, none⟩ c) :=
  ((h.setCell (p := ⟨k, 0, none⟩) hk a).setCell (p := ⟨k, 1, none⟩) hk b).setCell (p := ⟨k, 2, none⟩) hk c
theorem bel4c (h : Below n w0 w) (hk : n ≤ k) (a b c d : Value) : Below n w0 ((((w.setCell ⟨k, 0, none⟩ a).setCell ⟨k, 1, none⟩ b).setCell ⟨k, 2, none⟩ c).setCell ⟨k, 3, none⟩ d) := (bel3c h hk a b c).setCell (p := ⟨k, 3, none⟩) hk d
theorem bel5c (h : Below n w0 w) (hk : n ≤ k) (a b c d e : Value) : Below n w0 (((((w.setCell ⟨k, 0, none⟩ a).setCell ⟨k, 1, none⟩ b).setCell ⟨k, 2, none⟩ c).setCell ⟨k, 3, none⟩ d).setCell ⟨k, 4, none⟩ e) := (bel4c h hk a b c d).setCell (p := ⟨k, 4, none⟩) hk e
end
end Go.Proofs.Ytjmmgekildlckaa
