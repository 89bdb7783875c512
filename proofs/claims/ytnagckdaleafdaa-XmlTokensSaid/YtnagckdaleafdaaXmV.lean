/-
  The document's upto, open.
-/
import Derived.Test.YtnagckdaleafdaaXmU
namespace Go.Proofs.Ytnagckdaleafdaa
open Go.RowKit Go.Nst
set_option maxRecDepth 100000
set_option linter.unusedVariables false
set_option linter.unusedSimpArgs false

def upV (o : Option (List UInt8 × List UInt8)) : Value := match o with
  | none => .tuple #[.string ⟨#[]⟩, .string ⟨#[]⟩, .bool false]
  | some (a, b) => .tuple #[.string ⟨a.toArray⟩, .string ⟨b.toArray⟩, .bool true]
set_option maxHeartbeats 4000000 in
theorem refUpto8_any (l p sep : List UInt8) (w : World) (hl : l.length ≤ 1000000) (hp : p.length ≤ l.length) (hs : sep.length ≤ 1000) (hne : sep ≠ []) : Calls Try.prog 43 #[.string ⟨l.toArray⟩, .string ⟨p.toArray⟩, .string ⟨sep.toArray⟩] w fun e w' => e = .returned (upV (uptoD (l.drop p.length) sep)) ∧ ∃ m, w' = w.drewN m := by
  obtain ⟨s0, hs0⟩ : ∃ s0, ByteArray.mk l.toArray = s0 := ⟨_, rfl⟩
  obtain ⟨p0, hp0⟩ : ∃ p0, ByteArray.mk p.toArray = p0 := ⟨_, rfl⟩
  obtain ⟨q0, hq0⟩ : ∃ q0, ByteArray.mk sep.toArray = q0 := ⟨_, rfl⟩
  have hss : s0.size = l.length := by rw [← hs0, size_of]
  have hps : p0.size = p.length := by rw [← hp0, size_of]
  have hqs : q0.size = sep.length := by rw [← hq0, size_of]
  have hx1 : s0.extract p0.size s0.size = ⟨(l.drop p.length).toArray⟩ := by rw [hss, hps, ← hs0, xstr_drop]
  have HF := Lib.hid (fun W => refFind8_any (l.drop p.length) sep W (by rw [List.length_drop]; omega) (by omega) hne)
  rw [hq0] at HF
  have hup : uptoD (l.drop p.length) sep = if 0 ≤ Lib.index (l.drop p.length) sep then some ((l.drop p.length).take (Lib.index (l.drop p.length) sep).toNat, (l.drop p.length).drop ((Lib.index (l.drop p.length) sep).toNat + sep.length)) else none := by
    unfold uptoD Lib.cut
    by_cases h0 : 0 ≤ Lib.index (l.drop p.length) sep
    · simp [h0]
    · simp [h0]
  have hroom := Lib.index_room (l.drop p.length) sep
  have hz1 : s0.size ≤ 1000000 := by omega
  have hz2 : p0.size ≤ s0.size := by omega
  have hz3 : q0.size ≤ 1000 := by omega
  rcases Lib.index_spec (l.drop p.length) sep with ⟨hi, -⟩ | ⟨i, hi, hil, -, -⟩
  · rw [hi] at HF hup
    simp at hup
    rw [hup, hs0, hp0, hq0]
    clear hs0 hp0 hq0 hss hps hqs hup hroom hl hp hs hne
    go_enter Try.func43, Try.ntmps43
    go_wp2_with fail
    (with_reducible refine (HF.out _).mono ?_)
    rintro e w1 ⟨rfl, rfl⟩
    go_wp2_with fail
    go_ret3
    exact ⟨rfl, 0, rfl⟩
  · rw [hi] at HF hup hroom
    have hroom := hroom (by omega)
    rw [List.length_drop] at hroom
    simp at hup
    have hx2 : s0.extract p0.size (p0.size + i) = ⟨((l.drop p.length).take i).toArray⟩ := by
      have h1 := bl_mid s0 p0.size (p0.size + i)
      have h2 : bl s0 = l := by rw [← hs0, bl_of]
      rw [h2, Nat.add_sub_cancel_left, hps] at h1
      apply ByteArray.ext
      apply Array.ext'
      rw [hps]
      exact h1
    have hx3 : s0.extract (p0.size + i + q0.size) s0.size = ⟨(((l.drop p.length).drop (i + sep.length))).toArray⟩ := by
      rw [hss, hps, hqs, ← hs0, xstr_drop, List.drop_drop, Nat.add_assoc]
    rw [← List.drop_drop] at hup
    rw [List.drop_drop] at hup
    have hv : upV (uptoD (l.drop p.length) sep) = .tuple #[.string (s0.extract p0.size (p0.size + i)), .string (s0.extract (p0.size + i + q0.size) s0.size), .bool true] := by
      rw [hup, hx2, hx3]
      simp [upV, List.drop_drop]
    rw [hv, hs0, hp0, hq0]
    have hy : p0.size + i + q0.size ≤ s0.size := by omega
    clear hs0 hp0 hq0 hss hps hqs hup hroom hl hp hs hne hv hi hil hx2 hx3
    generalize l.drop p.length = dl at *
    have v1 : IntKind.i64.wrap ((p0.size : Int) + (i : Int)) = (p0.size : Int) + (i : Int) := IntWalk.i64_in _ (by omega)
    have v2 : IntKind.i64.wrap ((p0.size : Int) + (i : Int) + (q0.size : Int)) = (p0.size : Int) + (i : Int) + (q0.size : Int) := IntWalk.i64_in _ (by omega)
    have v3 : ((p0.size : Int) + (i : Int)).toNat = p0.size + i := by omega
    have v4 : ((p0.size : Int) + (i : Int) + (q0.size : Int)).toNat = p0.size + i + q0.size := by omega
    have v5 : (0 : Int) ≤ (p0.size : Int) + (i : Int) := by omega
    have v6 : (p0.size : Int) + (i : Int) ≤ (s0.size : Int) := by omega
    have v7 : (p0.size : Int) ≤ (p0.size : Int) + (i : Int) := by omega
    have v8 : (0 : Int) ≤ (p0.size : Int) + (i : Int) + (q0.size : Int) := by omega
    have v9 : (p0.size : Int) + (i : Int) + (q0.size : Int) ≤ (s0.size : Int) := by omega
    go_enter Try.func43, Try.ntmps43
    go_wp2_with fail
    (with_reducible refine (HF.out _).mono ?_)
    rintro e w1 ⟨rfl, rfl⟩
    go_wp2_with fail
    go_quiet (fail)
    go_wp2_with fail
    go_ret3
    exact ⟨rfl, nq, rfl⟩
def RetTS (w : World) (o : Option (List Xtk × List UInt8)) (e : Ending) (w' : World) : Prop := Below w.heap.size w w' ∧ match o with
  | some (ts, b) => ∃ A n c, e = .returned (.tuple #[.slice A n c, .string ⟨b.toArray⟩, .bool true]) ∧ XtA w' (fun b => w.heap.size ≤ b) A n ts ∧ n ≤ c ∧ c ≤ 9223372036854775807
  | none => ∃ A n c x, e = .returned (.tuple #[.slice A n c, .string x, .bool false])
/-- what holds at each round: the token's block, the row of its attributes -/
def OpR (w wr : World) (k : Nat) (n : List UInt8) (A : Option Addr) (m c : Nat) (ats : List Xat) : Prop :=
  Blk wr k 36 #[.int .i64 1, .string ⟨n.toArray⟩, .slice A m c, .string ⟨#[]⟩] ∧ XaO wr (k + 1) (fun _ => False) A m c ats ∧ w.heap.size ≤ k ∧ Below w.heap.size w wr
section
variable {w W W3 : World} {k m c c' : Nat} {n : List UInt8} {A A' : Option Addr} {ats ats' : List Xat}
theorem OpR.bel {w2 : World} (h : OpR w W k n A m c ats) (hb : Below W.heap.size W w2) : OpR w w2 k n A m c ats := ⟨h.1.below hb h.1.lt, h.2.1.bel xaP hb, h.2.2.1, bel_step h.2.2.2 hb⟩
theorem OpR.ready (h : OpR w W k n A m c ats) (a : Xat) (ha : a.nm.length ≤ 1000000 ∧ a.vl.length ≤ 1000000) {sz : Nat} (hsz : W.heap.size = sz) :
    XaO (W.alloc (.cells (xaV a) 39)) (k + 1) (fun _ => False) A m c ats ∧ XaR (W.alloc (.cells (xaV a) 39)) (fun b => False ∧ some b ≠ (Value.slice A m c).ownBlock) (some ⟨sz, 0, none⟩) 1 [a] ∧ k + 1 ≤ (W.alloc (.cells (xaV a) 39)).heap.size ∧ Blk (W.alloc (.cells (xaV a) 39)) k 36 #[.int .i64 1, .string ⟨n.toArray⟩, .slice A m c, .string ⟨#[]⟩] ∧ Below (k + 1) W (W.alloc (.cells (xaV a) 39)) := by
  subst hsz
  have B0 := bel_alloc (Below.refl W.heap.size W) (.cells (xaV a) 39)
  have hlt := h.1.lt
  exact ⟨h.2.1.bel xaP B0, RwR.blk1 (Blk.new W 39 (xaV a)) ⟨rfl, by omega, by omega⟩, by simp; omega, h.1.alloc _, B0.mono (by omega)⟩
theorem OpR.more (h : OpR w W k n A m c ats) (h3 : XaO W3 (k + 1) (fun _ => False) A' (m + 1) c' ats') (hb : Below (k + 1) W W3) : OpR w (W3.setCell ⟨k, 2, none⟩ (.slice A' (m + 1) c')) k n A' (m + 1) c' ats' := by
  have hk := h.1.below hb (by omega)
  refine ⟨by simpa using hk.set_ 2 (.slice A' (m + 1) c'), h3.grown xaP (row := some k) (only_setCell (World.grownBy.refl _ _) (.inl rfl) _) (fun g' e => ⟨fun h => h, fun e2 => by injection e with e; have := h3.lt g' e2; omega⟩), h.2.2.1, below_setCell (h.2.2.2.trans (hb.mono (by have := h.2.2.1; omega))) h.2.2.1 _⟩
theorem OpR.xt {B : Nat} (h : OpR w W k n A m c ats) (hn : n.length ≤ 100000) (hB : B ≤ k) : XtP W (fun b => B ≤ b) #[.int .i64 1, .string ⟨n.toArray⟩, .slice A m c, .string ⟨#[]⟩] ⟨1, n, ats, []⟩ := by
  have hl := h.2.1.len
  subst hl
  exact ⟨A, c, rfl, ⟨(show (-9223372036854775808 : Int) ≤ 1 by omega), (show (1 : Int) ≤ 9223372036854775807 by omega)⟩, (show n.length ≤ 9223372036854775807 by omega), by simp, h.2.1.cap.1, h.2.1.cap.2, h.2.1.qs xaP (fun b hb _ => hb.elim) (fun b hb _ => by omega)⟩
end
end Go.Proofs.Ytnagckdaleafdaa
