/-
  Queries' texts and what they lean on, part 1: only what the claims need.
-/
import Derived.WalkKit
import Derived.Outline
import Derived.Lib.Hide
import Derived.Below
import Derived.Laws.OwnMore
import Derived.Deep.AppendLies
import Derived.Deep.Draws
import Derived.Maps.AppendAt
import Derived.RegionTactic
import Derived.OwnWalk
import Derived.Laws.BytesArg
import Derived.WalkSpells
import Derived.Lib.AppendStr
import Derived.Deep.RegionHeld3
import Derived.BigQuiet
import Derived.Lib.SmallJoins
import Derived.Deep.Slices
import Derived.Test.YtjjlmkleidbmhaaGreatDoorZ00
import Derived.Test.YtjjlmkleidbmhaaGreatDoorProg
section
section
namespace Go.Nst
open Go.RowKit

theorem block_of_add (a : Addr) (n : Nat) : (a.add n).block = a.block := by unfold Addr.add; split <;> rfl
theorem add_of_add (a : Addr) (i j : Nat) : (a.add i).add j = a.add (i + j) := by
  unfold Addr.add
  by_cases hi : i = 0 <;> by_cases hj : j = 0 <;> simp [hi, hj, Nat.add_assoc]
theorem add_lit (b off k : Nat) : (⟨b, off, none⟩ : Addr).add k = ⟨b, off + k, none⟩ := by unfold Addr.add; split <;> simp_all

def Reads (w : World) (B size : Nat) (A : Option Addr) (n : Nat) (xs : List Value) : Prop :=
  xs.length = n * size ∧ (0 < n → ∃ ad, A = some ad ∧ ad.block < B ∧ ∀ j u, xs[j]? = some u → w.cell? (ad.add j) = some u)

section
variable {w w' : World} {B B' size n : Nat} {A : Option Addr} {xs : List Value}
theorem Reads.none_ : Reads w B size A 0 [] := ⟨by simp, fun h => absurd h (by omega)⟩
theorem Reads.at_ {k : Nat} (h : Reads w B 1 A n xs) (hk : k < n) : ∃ ad u, A = some ad ∧ ad.block < B ∧ xs[k]? = some u ∧ w.cell? (ad.add k) = some u := by
  obtain ⟨ad, e, hb, hc⟩ := h.2 (by omega)
  have hl : k < xs.length := by have := h.1; omega
  exact ⟨ad, xs[k], e, hb, List.getElem?_eq_getElem hl, hc k _ (List.getElem?_eq_getElem hl)⟩
theorem Reads.keep (h : Reads w B size A n xs) (hk : ∀ p : Addr, p.block < B → w'.cell? p = w.cell? p) : Reads w' B size A n xs :=
  ⟨h.1, fun hn => by
    obtain ⟨ad, e, hb, hc⟩ := h.2 hn
    exact ⟨ad, e, hb, fun j u hu => (hk _ (by rw [block_of_add]; exact hb)).trans (hc j u hu)⟩⟩
theorem Reads.more (h : Reads w B size A n xs) (hB : B ≤ B') : Reads w B' size A n xs :=
  ⟨h.1, fun hn => by
    obtain ⟨ad, e, hb, hc⟩ := h.2 hn
    exact ⟨ad, e, by omega, hc⟩⟩
theorem Reads.below (h : Reads w B size A n xs) (hb : Below B w w') : Reads w' B size A n xs := h.keep fun _ hp => hb.cell hp
theorem Reads.drew (h : Reads w B size A n xs) : Reads w.drew B size A n xs := h
theorem Reads.drewN (h : Reads w B size A n xs) (k : Nat) : Reads (w.drewN k) B size A n xs := h
theorem Reads.alloc (h : Reads w B size A n xs) (hB : B ≤ w.heap.size) (o : Obj) : Reads (w.alloc o) B size A n xs := h.keep fun p hp => World.cell?_alloc_lt w o p (by omega)
theorem Reads.setCell (h : Reads w B size A n xs) {p : Addr} (hB : B ≤ p.block) (u : Value) : Reads (w.setCell p u) B size A n xs :=
  h.keep fun q hq => World.cell?_setCell_other w p q u (fun e => by subst e; omega)
theorem Reads.grown (h : Reads w B size A n xs) {row : Option Nat} (hg : w.grownBy w' row) (hB : B ≤ w.heap.size) (hr : ∀ g, row = some g → B ≤ g) : Reads w' B size A n xs :=
  h.keep fun p hp => World.cell?_of_block (hg.block p.block (by omega) (fun e => by have := hr _ e.symm; omega))
theorem Reads.cut (h : Reads w B size A n xs) {k cap : Nat} (hk : k ≤ n) (hc : n ≤ cap) :
    Reads w B size (if cap = k then A else A.map (·.add (k * size))) (n - k) (xs.drop (k * size)) := by
  refine ⟨by rw [List.length_drop, h.1, Nat.sub_mul], fun hn => ?_⟩
  obtain ⟨ad, rfl, hb, hcell⟩ := h.2 (by omega)
  rw [if_neg (by omega)]
  refine ⟨ad.add (k * size), rfl, by rw [block_of_add]; exact hb, fun j u hu => ?_⟩
  rw [add_of_add]
  exact hcell _ u (by rw [← hu, List.getElem?_drop])
theorem Reads.of_own {base : Nat} {e : TypeId} {c : Nat} (h : w.ownsRow base e size (.slice A n c) n xs) : Reads w w.heap.size size A n xs := by
  refine ⟨h.1, fun hn => ?_⟩
  obtain ⟨g, cap, hv, _, hlt⟩ := h.form hn
  have hA : A = some ⟨g, 0, none⟩ := by injection hv
  subst hA
  exact ⟨_, rfl, hlt, h.cells (g := g) rfl⟩
end

/-- an element of one cell, the address written out -/
theorem Reads.plain {w : World} {B n : Nat} {A : Option Addr} {xs : List Value} {k : Nat} (h : Reads w B 1 A n xs) (hk : k < n) : ∃ (u : Value) (b off : Nat), A = some ⟨b, off, none⟩ ∧ Hid (xs[k]? = some u) ∧ b < B ∧ w.cell? ⟨b, off + k, none⟩ = some u := by
  obtain ⟨⟨b, off, spot⟩, e, hb, hc⟩ := h.2 (by omega)
  have hl := h.1
  have hg : xs[k]? = some (xs[k]'(by omega)) := List.getElem?_eq_getElem (by omega)
  have hg0 : xs[0]? = some (xs[0]'(by omega)) := List.getElem?_eq_getElem (by omega)
  have hs : spot = none := by
    have := World.cell?_spot (hc 0 _ hg0)
    simpa [Addr.add] using this
  subst hs
  have hx := hc k _ hg
  rw [add_lit] at hx
  exact ⟨_, b, off, e, hg, hb, hx⟩

/-- bytes as cells -/
def bv (l : List UInt8) : List Value := l.map fun u => Value.int .u8 (u.toNat : Int)
theorem bv_len (l : List UInt8) : (bv l).length = l.length := by simp [bv]
theorem bv_get (l : List UInt8) (k : Nat) (u : UInt8) (h : l[k]? = some u) : (bv l)[k]? = some (.int .u8 (u.toNat : Int)) := by simp [bv, h]
theorem bv_append (a b : List UInt8) : bv (a ++ b) = bv a ++ bv b := by simp [bv]
theorem bv_drop (l : List UInt8) (k : Nat) : (bv l).drop k = bv (l.drop k) := by simp [bv, List.map_drop]
theorem bv_one (l : List UInt8) : ∀ u ∈ bv l, u.oneCell' = true := by
  intro u hu
  simp only [bv, List.mem_map] at hu
  obtain ⟨x, _, rfl⟩ := hu
  rfl

/-- the slice value '.slice A n c' reads as the bytes l -/
def Bs (w : World) (A : Option Addr) (n : Nat) (l : List UInt8) : Prop := Reads w w.heap.size 1 A n (bv l)

section
variable {w w' : World} {n : Nat} {A : Option Addr} {l : List UInt8}
theorem Bs.len (h : Bs w A n l) : l.length = n := by have := h.1; rw [bv_len] at this; omega
theorem Bs.nil : Bs w A 0 [] := Reads.none_
theorem Bs.at {k : Nat} (h : Bs w A n l) (hk : k < n) : ∃ (u : UInt8) (b off : Nat), A = some ⟨b, off, none⟩ ∧ Hid (l[k]? = some u) ∧ b < w.heap.size ∧ w.cell? ⟨b, off + k, none⟩ = some (.int .u8 (u.toNat : Int)) ∧ (u.toNat : Int) < 256 := by
  obtain ⟨⟨b, off, spot⟩, e, hb, hc⟩ := h.2 (by omega)
  have hl := h.len
  have hg : l[k]? = some l[k] := List.getElem?_eq_getElem (by omega)
  have hg0 : l[0]? = some (l[0]'(by omega)) := List.getElem?_eq_getElem (by omega)
  have hs : spot = none := by
    have := World.cell?_spot (hc 0 _ (bv_get l 0 _ hg0))
    simpa [Addr.add] using this
  subst hs
  have hx := hc k _ (bv_get l k _ hg)
  rw [add_lit] at hx
  exact ⟨l[k], b, off, e, hg, hb, hx, by have := l[k].toNat_lt; omega⟩
theorem Bs.below (h : Bs w A n l) (hb : Below w.heap.size w w') : Bs w' A n l := (Reads.below h hb).more hb.size
theorem Bs.drew (h : Bs w A n l) : Bs w.drew A n l := h
theorem Bs.drewN (h : Bs w A n l) (k : Nat) : Bs (w.drewN k) A n l := h
theorem Bs.alloc (h : Bs w A n l) (o : Obj) : Bs (w.alloc o) A n l := h.below ((Below.refl _ _).alloc (Nat.le_refl _) o)
theorem Bs.cut (h : Bs w A n l) {k cap : Nat} (hk : k ≤ n) (hc : n ≤ cap) : Bs w (if cap = k then A else A.map (·.add k)) (n - k) (l.drop k) := by
  have := Reads.cut h hk hc
  rw [Nat.mul_one, bv_drop] at this
  exact this
/-- string(b) -/
theorem Bs.str {P : Program} (h : Bs w A n l) (src dst e : TypeId) (c : Nat) (hs : P.underlying src = some (.slice e)) (he : P.underlying e = some (.int .u8)) (hd : P.underlying dst = some .string) :
    (convert src dst (.slice A n c)).run P w = .ok (.string ⟨l.toArray⟩) w := by
  have hl := h.len
  rcases Nat.eq_zero_or_pos n with h0 | h0
  · subst h0
    obtain rfl : l = [] := List.eq_nil_of_length_eq_zero hl
    cases A with
    | none => exact run_convert_bytes_nil w src e hs he 0 c dst hd
    | some ad =>
      rw [run_convert_bytes_string w src dst e _ 0 c hs he hd, run_bytesToString w ad 0 c [] (by simpa using run_loadCells_list (P := P) w ad [] (by simp))]
      rfl
  · obtain ⟨u, b, off, rfl, _, _, _, _⟩ := h.at h0
    have hx : (l.map fun u => (u.toNat : Int)).length = n := by simpa using hl
    rw [run_convert_bytes_arg w src e hs he b off n c (l.map fun u => (u.toNat : Int)) hx ?_ dst hd]
    · have e1 : strOfNums (l.map fun u => (u.toNat : Int)) = ⟨l.toArray⟩ := by
        unfold strOfNums
        rw [List.map_map]
        congr 2
        have : ((fun n : Int => UInt8.ofNat n.toNat) ∘ fun u : UInt8 => (u.toNat : Int)) = id := by
          funext u
          simp
        rw [this, List.map_id]
      rw [e1]
    · intro i hi
      obtain ⟨u, b', off', e1, hu, _, hc, _⟩ := h.at hi
      injection e1 with e1
      injection e1 with e1 e2
      subst e1
      subst e2
      rw [hc]
      have hu' := hu.out
      simp [List.getElem?_map, hu']
end

/-- block g is just the cells cs of element type t, none frozen -/
def Blk (w : World) (g : Nat) (t : TypeId) (cs : Array Value) : Prop := w.heap[g]? = some (.cells cs t (0, 0))

section
variable {w w' : World} {g : Nat} {t : TypeId} {cs : Array Value}
theorem Blk.lt (h : Blk w g t cs) : g < w.heap.size := by
  rcases Nat.lt_or_ge g w.heap.size with hlt | hge
  · exact hlt
  · unfold Blk at h; rw [Array.getElem?_eq_none hge] at h; cases h
theorem Blk.cell (h : Blk w g t cs) (i : Nat) : w.cell? ⟨g, i, none⟩ = cs[i]? := cell_of_row w g i cs t (0, 0) h
theorem Blk.frozen (h : Blk w g t cs) (i : Nat) : w.frozen? ⟨g, i, none⟩ = false := by
  unfold Blk at h
  simp [World.frozen?, h]
theorem Blk.new (w : World) (t : TypeId) (cs : Array Value) : Blk (w.alloc (.cells cs t)) w.heap.size t cs := heap_alloc_new w _
theorem Blk.drew (h : Blk w g t cs) : Blk w.drew g t cs := h
theorem Blk.drewN (h : Blk w g t cs) (n : Nat) : Blk (w.drewN n) g t cs := h
theorem Blk.alloc (h : Blk w g t cs) (o : Obj) : Blk (w.alloc o) g t cs := (Below.heap_alloc w o g h.lt).trans h
theorem Blk.set_ (h : Blk w g t cs) (i : Nat) (u : Value) : Blk (w.setCell ⟨g, i, none⟩ u) g t (cs.setIfInBounds i u) := by
  unfold Blk at h ⊢
  simp [World.setCell, Array.getElem?_modify, h]
theorem Blk.far (h : Blk w g t cs) {p : Addr} (hp : g ≠ p.block) (u : Value) : Blk (w.setCell p u) g t cs := (Below.heap_setCell w p u g hp).trans h
theorem Blk.below {B : Nat} (h : Blk w g t cs) (hb : Below B w w') (hg : g < B) : Blk w' g t cs := (hb.block g hg).trans h
theorem Blk.grown {row : Option Nat} (h : Blk w g t cs) (hb : w.grownBy w' row) (hg : some g ≠ row) : Blk w' g t cs := (hb.block g h.lt hg).trans h
end
theorem only_setCell {a w : World} {g : Nat} (h : a.grownBy w (some g)) {p : Addr} (hp : p.block = g ∨ a.heap.size ≤ p.block) (u : Value) : a.grownBy (w.setCell p u) (some g) :=
  ⟨h.os, h.tape, h.output, by simpa [World.setCell] using h.size, fun i hi hne => (Below.heap_setCell w p u i (by
    rintro rfl
    rcases hp with hp | hp
    · exact hne (by rw [hp])
    · omega)).trans (h.block i hi hne)⟩
theorem only_of_below {a w : World} (h : Below a.heap.size a w) (row : Option Nat) : a.grownBy w row := ⟨h.os, h.tape, h.output, h.size, fun i hi _ => h.block i hi⟩
theorem only_trans {a b c : World} {row : Option Nat} (h : a.grownBy b row) (k : b.grownBy c row) : a.grownBy c row :=
  ⟨k.os.trans h.os, k.tape.trans h.tape, k.output.trans h.output, Nat.le_trans h.size k.size, fun i hi hne => (k.block i (Nat.lt_of_lt_of_le hi h.size) hne).trans (h.block i hi hne)⟩
/-- what writes to a block of the call's own alone writes nothing that was there -/
theorem below_only {B : Nat} {a b c : World} {g : Nat} (h : Below B a b) (k : b.grownBy c (some g)) (hg : B ≤ g) (hB : B ≤ b.heap.size) : Below B a c :=
  h.trans ⟨k.os, k.tape, k.output, k.size, fun i hi => k.block i (by omega) (fun e => by injection e with e; omega)⟩
theorem Bs.only {w w' : World} {A : Option Addr} {n : Nat} {l : List UInt8} {row : Option Nat} (h : Bs w A n l) (hg : w.grownBy w' row) (hne : ∀ ad, A = some ad → 0 < n → some ad.block ≠ row) : Bs w' A n l := by
  refine ⟨h.1, fun hn => ?_⟩
  obtain ⟨ad, e, hb, hc⟩ := h.2 hn
  refine ⟨ad, e, Nat.lt_of_lt_of_le hb hg.size, fun j u hu => ?_⟩
  rw [World.cell?_of_block (hg.block (ad.add j).block (by rw [block_of_add]; exact hb) (by rw [block_of_add]; exact hne ad e hn))]
  exact hc j u hu

/-- a row of bytes of the call's own -/
def Ow (w : World) (base : Nat) (A : Option Addr) (n c : Nat) (l : List UInt8) : Prop := w.ownsRow base 5 1 (.slice A n c) n (bv l)

section
variable {w w' : World} {base n c : Nat} {A : Option Addr} {l : List UInt8}
theorem Ow.bs (h : Ow w base A n c l) : Bs w A n l := Reads.of_own h
theorem Ow.len (h : Ow w base A n c l) : l.length = n := h.bs.len
theorem Ow.cap (h : Ow w base A n c l) : n ≤ c := by
  rcases h.2 with ⟨e, _⟩ | ⟨g, cap, cur, e, _, _, hc, _⟩
  · injection e with _ e1 e2; omega
  · injection e with _ _ e2; omega
theorem Ow.nil : Ow w base none 0 0 [] := World.ownsRow_nil _ _ _ _
theorem Ow.mono {base' : Nat} (h : Ow w base A n c l) (hb : base' ≤ base) : Ow w base' A n c l := by
  refine ⟨h.1, ?_⟩
  rcases h.2 with h2 | ⟨g, cap, cur, hv, hg, r⟩
  · exact .inl h2
  · exact .inr ⟨g, cap, cur, hv, by omega, r⟩
theorem Ow.below (h : Ow w base A n c l) (hb : Below w.heap.size w w') : Ow w' base A n c l := by
  refine ⟨h.1, ?_⟩
  rcases h.2 with h2 | ⟨g, cap, cur, hv, hg, hh, r⟩
  · exact .inl h2
  · exact .inr ⟨g, cap, cur, hv, hg, (hb.block g (Array.getElem?_eq_some_iff.1 hh).1).trans hh, r⟩
theorem Ow.blk (h : Ow w base A n c l) : ∀ k, (Value.slice A n c).ownBlock = some k → base ≤ k ∧ k < w.heap.size := h.lt
/-- '[]byte{}' and '[]byte{..}' -/
theorem Ow.made (w : World) (l : List UInt8) (cs : Array Value) (hcs : cs.toList = bv l) (hl : l.length ≤ maxLen) (hb : base ≤ w.heap.size) : Ow (w.alloc (.cells cs 5)) base (some ⟨w.heap.size, 0, none⟩) l.length l.length l :=
  ⟨by rw [bv_len]; omega, .inr ⟨w.heap.size, l.length, cs, rfl, hb, heap_alloc_new w _, Nat.le_refl _, hl, by rw [← Array.length_toList, hcs, bv_len]; omega, by rw [hcs, List.take_of_length_le (by rw [bv_len]; omega)]⟩⟩

theorem Ow.form (h : Ow w base A n c l) (hn : 0 < n) : ∃ g, A = some ⟨g, 0, none⟩ ∧ base ≤ g := by
  rcases h.2 with ⟨_, e⟩ | ⟨g, cap, cur, e, hb, _⟩
  · omega
  · injection e with e1
    exact ⟨g, e1, hb⟩
theorem Ow.cellAt {g j : Nat} (h : Ow w base (some ⟨g, 0, none⟩) n c l) (hj : j < n) : ∃ u : UInt8, Hid (l[j]? = some u) ∧ w.cell? ⟨g, j, none⟩ = some (.int .u8 (u.toNat : Int)) ∧ w.frozen? ⟨g, j, none⟩ = false ∧ (u.toNat : Int) < 256 := by
  obtain ⟨u, b, off, e, hu, _, hc, h256⟩ := h.bs.at hj
  injection e with e
  injection e with e1 e2
  subst e1
  subst e2
  rw [Nat.zero_add] at hc
  refine ⟨u, hu, hc, ?_, h256⟩
  rcases h.2 with ⟨e, _⟩ | ⟨g', cap, cur, e, hb, hh, _⟩
  · cases e
  · injection e with e1
    injection e1 with e1
    injection e1 with e1
    subst e1
    simp [World.frozen?, hh]
theorem Ow.set {g : Nat} (h : Ow w base (some ⟨g, 0, none⟩) n c l) (j : Nat) (u : UInt8) : Ow (w.setCell ⟨g, j, none⟩ (.int .u8 (u.toNat : Int))) base (some ⟨g, 0, none⟩) n c (l.set j u) := by
  have := (World.ownsRow.stored h j (.int .u8 (u.toNat : Int))).1
  unfold Ow
  rw [show bv (l.set j u) = (bv l).set j (.int .u8 (u.toNat : Int)) by simp [bv, List.map_set]]
  exact this
end

/-- a call that hands back bytes of its own, and changes nothing that was there -/
def RetB (w : World) (l : List UInt8) (e : Ending) (w' : World) : Prop := ∃ A n c, e = .returned (.slice A n c) ∧ Ow w' w.heap.size A n c l ∧ Below w.heap.size w w'
theorem RetB.of {w w' : World} {l : List UInt8} {A : Option Addr} {n c : Nat} {v : Value} (hv : v = .slice A n c) (h1 : Ow w' w.heap.size A n c l) (h2 : Below w.heap.size w w') : RetB w l (.returned v) w' := ⟨A, n, c, by rw [hv], h1, h2⟩

/-- a literal of bytes -/
theorem lit_made (w : World) (l : List UInt8) (cs : Array Value) (hcs : cs.toList = bv l) (hl : l.length ≤ 1000) : Ow (w.alloc (.cells cs 5)) w.heap.size (some ⟨w.heap.size, 0, none⟩) l.length l.length l :=
  Ow.made w l cs hcs (by unfold maxLen; omega) (Nat.le_refl _)

/-- the row that '[]byte("..")' lays, marked or not -/
theorem Bs.const (w : World) (l : List UInt8) (cs : Array Value) (t : TypeId) (fr : Nat × Nat) (n : Nat) (hn : l.length = n) (hcs : cs.toList = bv l) : Bs (w.alloc (.cells cs t fr)) (some ⟨w.heap.size, 0, none⟩) n l := by
  refine ⟨by rw [bv_len]; omega, fun _ => ⟨_, rfl, by simp, fun j u hu => ?_⟩⟩
  rw [add_lit, Nat.zero_add, cell_of_row _ w.heap.size j cs t fr (heap_alloc_new w _)]
  rw [← hcs] at hu
  simpa using hu

/-- true, and nothing that was there has changed -/
def RetTrue (w : World) (e : Ending) (w' : World) : Prop := e = .returned (.bool true) ∧ Below w.heap.size w w'
theorem below_drewN {B : Nat} {a w : World} (h : Below B a w) (n : Nat) : Below B a (w.drewN n) := ⟨h.os, h.tape, h.output, h.size, h.block⟩
theorem bel_step {W w1 w2 : World} (h : Below W.heap.size W w1) (k : Below w1.heap.size w1 w2) : Below W.heap.size W w2 := h.trans (k.mono h.size)
theorem bel_alloc {W w1 : World} (h : Below W.heap.size W w1) (o : Obj) : Below W.heap.size W (w1.alloc o) := h.alloc h.size o

section
variable {P : Program} (w : World)

theorem run_append_of_nil (base : Nat) (t ty e : TypeId) (i : TypeInfo) (size : Nat) (ht : P.underlying t = some (.slice e)) (hi : P.info? e = some i)
    (v : Value) (n : Nat) (xs : List Value) (hown : w.ownsRow base e size v n xs) (c : Nat) : (Builtin.append_ #[t, t] ty #[v, .slice none 0 c]).run P w = .ok v w := by
  rcases hown.2 with ⟨rfl, rfl⟩ | ⟨g, cap, cur, rfl, _, _, hnc, _⟩
  · simp [Builtin.append_, run_underlying ht, sizeOf, typeInfo, hi, Builtin.lenOf, Builtin.firstCells]
  · simp [Builtin.append_, run_underlying ht, sizeOf, typeInfo, hi, Builtin.lenOf, Builtin.firstCells, hnc, storeCells]

theorem run_append_any (base : Nat) (t ty e : TypeId) (i : TypeInfo) (z : Value) (size bytes : Nat) (ht : P.underlying t = some (.slice e)) (hi : P.info? e = some i) (hz : i.zero = some z)
    (hsize : i.size = size) (hby : i.bytes = bytes) (hzs : z.cells.size = size) (hsz : 0 < size)
    (v : Value) (n : Nat) (xs : List Value) (hown : w.ownsRow base e size v n xs)
    (B : Nat) (A : Option Addr) (m c : Nat) (news : List Value) (hr : Reads w B size A m news) (h1 : ∀ u ∈ news, u.oneCell' = true)
    (h63 : n + m ≤ maxLen) (hbytes : (n + m) * bytes ≤ 140737488355328) (hbase : base ≤ w.heap.size) :
    ∃ v' w', (Builtin.append_ #[t, t] ty #[v, .slice A m c]).run P w = .ok v' w' ∧ w'.ownsRow base e size v' (n + m) (xs ++ news) ∧ w.grownBy w' v.ownBlock ∧
      (v'.ownBlock = v.ownBlock ∨ v'.ownBlock = some w.heap.size) := by
  rcases A with _ | ad
  · have hm : m = 0 := by
      rcases Nat.eq_zero_or_pos m with h0 | h0
      · exact h0
      · obtain ⟨ad, h, _⟩ := hr.2 h0
        cases h
    subst hm
    have hn : news = [] := List.eq_nil_of_length_eq_zero (by simpa using hr.1)
    subst hn
    exact ⟨v, w, run_append_of_nil w base t ty e i size ht hi v n xs hown c, by simpa using hown, World.grownBy.refl w _, .inl rfl⟩
  · have hcells : ∀ j u, news[j]? = some u → w.cell? (ad.add j) = some u := by
      intro j u hu
      rcases Nat.eq_zero_or_pos m with h0 | h0
      · subst h0
        have hn : news = [] := List.eq_nil_of_length_eq_zero (by simpa using hr.1)
        subst hn
        simp at hu
      · obtain ⟨ad', h, _, hc⟩ := hr.2 h0
        injection h with h
        subst h
        exact hc j u hu
    obtain ⟨v', w', hrun, h2, h3, _, h5⟩ := run_append_own_at (P := P) w base t ty e i z size bytes ht hi hz hsize hby hzs hsz v n xs hown ad m c news hr.1 hcells h1 h63 hbytes hbase
    exact ⟨v', w', hrun, h2, h3, h5⟩

/-- what the tables say of a slice type T and its element type E -/
structure Info (P : Program) (T E : TypeId) (z : Value) (size bytes : Nat) : Prop where
  slice : P.underlying T = some (.slice E)
  info : ∃ i, P.info? E = some i ∧ i.zero = some z ∧ i.size = size ∧ i.bytes = bytes
  cells : z.cells.size = size
  pos : 0 < size
theorem Info.mk_ {P : Program} {T E : TypeId} {z : Value} {size bytes : Nat} (hs : P.underlying T = some (.slice E)) (h : (P.info? E).map (fun i => (i.zero, i.size, i.bytes)) = some (some z, size, bytes)) (hc : z.cells.size = size) (hp : 0 < size) : Info P T E z size bytes := by
  obtain ⟨i0, hi, hz0, hz1, hz2⟩ := info_parts h
  exact ⟨hs, ⟨i0, hi, hz0, hz1, hz2⟩, hc, hp⟩

theorem wp_app {T E : TypeId} {z : Value} {size bytes : Nat} (hI : Info P T E z size bytes) {o : Oper} {a : Act} {K : Act → World → Prop} {Q : Exit → Act → World → Prop} {s x : Operand}
    (ho : o.op = .call { callee := .builtin .append, args := #[s, x], argTypes := #[T, T] })
    {base : Nat} {A0 : Option Addr} {n c0 : Nat} {xs : List Value} (hs : a.eval s = .slice A0 n c0) (hown : w.ownsRow base E size (.slice A0 n c0) n xs)
    {B : Nat} {A : Option Addr} {m c : Nat} {news : List Value} (hx : a.eval x = .slice A m c) (hr : Reads w B size A m news) (h1 : ∀ u ∈ news, u.oneCell' = true)
    (h63 : n + m ≤ maxLen) (hbytes : (n + m) * bytes ≤ 140737488355328) (hbase : base ≤ w.heap.size)
    (h : ∀ A' c' w', w'.ownsRow base E size (.slice A' (n + m) c') (n + m) (xs ++ news) → w.grownBy w' (Value.slice A0 n c0).ownBlock → ((Value.slice A' (n + m) c').ownBlock = (Value.slice A0 n c0).ownBlock ∨ (Value.slice A' (n + m) c').ownBlock = some w.heap.size) → K (a.put o.dst (.slice A' (n + m) c')) w') : o.wp P a w K Q := by
  obtain ⟨i, hi, hz, hsize, hby⟩ := hI.info
  obtain ⟨v', w', hrun, h2, h3, h4⟩ := run_append_any (P := P) w base T o.type E i z size bytes hI.slice hi hz hsize hby hI.cells hI.pos _ n xs hown B A m c news hr h1 h63 hbytes hbase
  unfold Oper.wp execOp
  simp only [ho, resolve, invoke, builtin, Sem.run_bind, Sem.run_pure, Result.andThen_ok, List.map_toArray, List.map_cons, List.map_nil, hs, hx, hrun]
  have hv : ∃ A' c', v' = .slice A' (n + m) c' := by
    rcases h2.2 with ⟨e, e2⟩ | ⟨g, cap, cur, e, _⟩
    · exact ⟨none, 0, by rw [e, e2]⟩
    · exact ⟨_, _, e⟩
  obtain ⟨A', c', rfl⟩ := hv
  exact h A' c' w' h2 h3 h4

/-- append onto a row of the call's own -/
theorem wpList_app {T E : TypeId} {z : Value} {size bytes : Nat} (hI : Info P T E z size bytes) {ops : Array Oper} {rest : List Oper} {o : Oper} {a : Act} {Q : Exit → Act → World → Prop} {s x : Operand} (hgd : o.guard = none)
    (ho : o.op = .call { callee := .builtin .append, args := #[s, x], argTypes := #[T, T] })
    {base : Nat} {A0 : Option Addr} {n c0 : Nat} {xs : List Value} (hs : a.eval s = .slice A0 n c0) (hown : w.ownsRow base E size (.slice A0 n c0) n xs)
    {B : Nat} {A : Option Addr} {m c : Nat} {news : List Value} (hx : a.eval x = .slice A m c) (hr : Reads w B size A m news) (h1 : ∀ u ∈ news, u.oneCell' = true)
    (h63 : n + m ≤ maxLen) (hbytes : (n + m) * bytes ≤ 140737488355328) (hbase : base ≤ w.heap.size)
    (h : ∀ A' c' w', w'.ownsRow base E size (.slice A' (n + m) c') (n + m) (xs ++ news) → w.grownBy w' (Value.slice A0 n c0).ownBlock → ((Value.slice A' (n + m) c').ownBlock = (Value.slice A0 n c0).ownBlock ∨ (Value.slice A' (n + m) c').ownBlock = some w.heap.size) → wpList P ops Q rest (a.put o.dst (.slice A' (n + m) c')) w') : wpList P ops Q (o :: rest) a w :=
  wpList_plain hgd fun _ hK => wp_app w hI ho hs hown hx hr h1 h63 hbytes hbase fun A' c' w' h2 h3 h4 => hK _ _ (h A' c' w' h2 h3 h4)

/-- append of bytes onto a row of bytes of the call's own; the operation may be guarded, if the guard holds; k, lr: the new length, the new bytes, as the caller wants them spelled -/
theorem wpList_appBg {T : TypeId} (hI : Info P T 5 (.int .u8 0) 1 1) {ops : Array Oper} {rest : List Oper} {o : Oper} {a : Act} {Q : Exit → Act → World → Prop} {s x : Operand} (hgd : Region.wanted o (yielded ops a.tmps) = true)
    (ho : o.op = .call { callee := .builtin .append, args := #[s, x], argTypes := #[T, T] })
    {base : Nat} {A0 : Option Addr} {n c0 : Nat} {l0 : List UInt8} (hs : a.eval s = .slice A0 n c0) (hown : Ow w base A0 n c0 l0)
    {A : Option Addr} {m c : Nat} {l : List UInt8} (hx : a.eval x = .slice A m c) (hr : Bs w A m l)
    (k : Nat) (lr : List UInt8) (hk : n + m = k) (hlr : l0 ++ l = lr)
    (hbytes : n + m ≤ 140737488355328) (hbase : base ≤ w.heap.size)
    (h : ∀ A' c' w', Ow w' base A' k c' lr → Below base w w' → w.grownBy w' (Value.slice A0 n c0).ownBlock → ((Value.slice A' k c').ownBlock = (Value.slice A0 n c0).ownBlock ∨ (Value.slice A' k c').ownBlock = some w.heap.size) → wpList P ops Q rest (a.put o.dst (.slice A' k c')) w') : wpList P ops Q (o :: rest) a w := by
  subst hk
  subst hlr
  refine wpList_step fun K hK => ?_
  rw [if_pos hgd]
  exact wp_app w hI ho hs hown hx hr (bv_one _) (by unfold maxLen; omega) (by omega) hbase fun A' c' w' h2 h3 h4 =>
    hK _ _ (h A' c' w' (by rw [← bv_append] at h2; exact h2) ((Below.refl _ _).grown h3 hbase (fun k hk => (hown.blk k hk).1)) h3 h4)
end

/-- a slice of ints reads as a list -/
def Is (w : World) (A : Option Addr) (n : Nat) (l : List Int) : Prop := Reads w w.heap.size 1 A n (l.map fun z => Value.int .i64 z)
theorem Is.len {w : World} {A : Option Addr} {n : Nat} {l : List Int} (h : Is w A n l) : l.length = n := by have := h.1; simpa using this
theorem Is.below {w w' : World} {A : Option Addr} {n : Nat} {l : List Int} (h : Is w A n l) (hb : Below w.heap.size w w') : Is w' A n l := (Reads.below h hb).more hb.size
theorem Is.at {w : World} {A : Option Addr} {n k : Nat} {l : List Int} (h : Is w A n l) (hk : k < n) : ∃ (z : Int) (b off : Nat), A = some ⟨b, off, none⟩ ∧ Hid (l[k]? = some z) ∧ b < w.heap.size ∧ w.cell? ⟨b, off + k, none⟩ = some (.int .i64 z) := by
  obtain ⟨u, b, off, e, hu, hb, hc⟩ := Reads.plain h hk
  have hu' := hu.out
  rw [List.getElem?_map, Option.map_eq_some_iff] at hu'
  obtain ⟨z, hz, rfl⟩ := hu'
  exact ⟨z, b, off, e, hz, hb, hc⟩

/-- only block g, and what is new, has turned -/
def Onl (g : Nat) (w W : World) : Prop := w.grownBy W (some g)
theorem Onl.refl (g : Nat) (w : World) : Onl g w w := World.grownBy.refl w _
theorem Onl.trans {g : Nat} (a b c : World) (h : Onl g a b) (k : Onl g b c) : Onl g a c := only_trans h k
end Go.Nst
end
section
namespace Go.Nst
open Go.RowKit

section
variable {P : Program} {ops : Array Oper} {Q : Exit → Act → World → Prop} {md : Region.Mode}

theorem wpAnyH_mono {S S' : World → Prop} (hS : ∀ w, S' w → S w) : ∀ (fuel : Nat) (listed : Array Bool) (a : Act) (w : World), wpAnyH P md ops Q S' fuel listed a w → wpAnyH P md ops Q S fuel listed a w
  | 0, _, _, _, h => h
  | fuel + 1, _, _, _, h => ⟨h.1, fun i hi => wpOp_mono (fun a' w' h' => ⟨hS w' h'.1, wpAnyH_mono hS fuel _ a' w' h'.2⟩) (h.2 i hi)⟩

/-- the operations in the order of σ; (i, true): operation i only reads: it yields its value in every world that has come out of this one as R says -/
def wpSeqR (R : World → World → Prop) (P : Program) (ops : Array Oper) (Q : Exit → Act → World → Prop) : List (Nat × Bool) → Act → World → Prop
  | [], a, w => Q .normal a w
  | (i, true) :: σ, a, w => ∃ o v, ops[i]? = some o ∧ YieldsIf P ops (fun W => R w W) o v a ∧ wpSeqR R P ops Q σ (a.put o.dst v) w
  | (i, false) :: σ, a, w => wpOp P ops Q i (fun a' w' => R w w' ∧ wpSeqR R P ops Q σ a' w') a w

/-- may the operations be walked in this order alone? -/
def seqOK (md : Region.Mode) (ops : Array Oper) : List (Nat × Bool) → Array Bool → Bool
  | [], listed => Region.ready md ops listed == []
  | (i, true) :: σ, listed => Region.free md ops listed i && (Region.ready md ops listed).contains i && seqOK md ops σ (listed.setIfInBounds i true)
  | (i, false) :: σ, listed => Region.ready md ops listed == [i] && seqOK md ops σ (listed.setIfInBounds i true)

theorem wpSeqR_sound {R : World → World → Prop} (hr : ∀ w, R w w) (ht : ∀ a b c, R a b → R b c → R a c) (hs : Region.noSelect ops = true) (hQ : ∀ c a d v w, Q (.panic c) (Act.put a d v) w → Q (.panic c) a w) : ∀ (σ : List (Nat × Bool)) (listed : Array Bool) (a : Act) (w : World),
    seqOK md ops σ listed = true → wpSeqR R P ops Q σ a w → wpAnyH P md ops Q (fun W => R w W) σ.length listed a w
  | [], listed, a, w, hok, h => by
    simp only [seqOK, beq_iff_eq] at hok
    exact wpAnyH_done hok h _
  | (i, true) :: σ, listed, a, w, hok, h => by
    simp only [seqOK, Bool.and_eq_true] at hok
    obtain ⟨o, v, hi, hy, hr'⟩ := h
    exact wpAnyH_take hi hs hok.1.1 hok.1.2 (fun c a w => hQ c a o.dst v w) hy (hr w) (wpSeqR_sound hr ht hs hQ σ _ _ w hok.2 hr')
  | (i, false) :: σ, listed, a, w, hok, h => by
    simp only [seqOK, Bool.and_eq_true, beq_iff_eq] at hok
    refine wpAnyH_all hok.1 (by simp) (fun j hj => ?_)
    obtain rfl : j = i := by simpa using hj
    exact wpOp_mono (fun a' w' h' => ⟨h'.1, wpAnyH_mono (fun W hW => ht _ _ _ h'.1 hW) _ _ _ _ (wpSeqR_sound hr ht hs hQ σ _ a' w' hok.2 h'.2)⟩) h

/-- the beginning; σ names every operation -/
theorem wp_region_seqR (R : World → World → Prop) (hr : ∀ w, R w w) (ht : ∀ a b c, R a b → R b c → R a c) {id : Nat} {a : Act} {w : World} (hm : P.follows .mixedOrders = true) (σ : List (Nat × Bool)) (hs : Region.noSelect ops = true) (hl : σ.length = ops.size) (hok : seqOK .any ops σ (Array.replicate ops.size false) = true)
    (hd : R w w.drew) (h : ∀ w0, R w w0 → wpSeqR R P ops (NoPanic Q) σ a w0) : (Code.region id ops true).wp P Q a w := by
  refine wp_region_noPanic (wp_region_held (S := fun W => R w.drew W) hm ?_)
  have := wpSeqR_sound (md := .any) hr ht hs (fun c a d v w h => h) σ _ a w.drew hok (h _ hd)
  rw [hl] at this
  exact this

/-- the same from the very world behind the draw -/
theorem wp_region_seqD (R : World → World → Prop) (hr : ∀ w, R w w) (ht : ∀ a b c, R a b → R b c → R a c) {id : Nat} {a : Act} {w : World} (hm : P.follows .mixedOrders = true) (σ : List (Nat × Bool)) (hs : Region.noSelect ops = true) (hl : σ.length = ops.size) (hok : seqOK .any ops σ (Array.replicate ops.size false) = true)
    (h : wpSeqR R P ops (NoPanic Q) σ a w.drew) : (Code.region id ops true).wp P Q a w := by
  refine wp_region_noPanic (wp_region_held (S := fun W => R w.drew W) hm ?_)
  have := wpSeqR_sound (md := .any) hr ht hs (fun c a d v w h => h) σ _ a w.drew hok h
  rw [hl] at this
  exact this

theorem wpSeqR_nil {R : World → World → Prop} {a : Act} {w : World} (h : Q .normal a w) : wpSeqR R P ops (NoPanic Q) [] a w := h
theorem wpSeqR_take {R : World → World → Prop} {i : Nat} {o : Oper} {σ : List (Nat × Bool)} {a : Act} {w : World} {v : Value} (hi : ops[i]? = some o) (hw : Region.wanted o (yielded ops a.tmps) = true)
    (hy : ∀ W, R w W → (execOp a.eval o).run P W = .ok (.value v) W) (h : wpSeqR R P ops Q σ (a.put o.dst v) w) : wpSeqR R P ops Q ((i, true) :: σ) a w := ⟨o, v, hi, .inl ⟨hw, hy⟩, h⟩
theorem wpSeqR_exec {R : World → World → Prop} {i : Nat} {o : Oper} {σ : List (Nat × Bool)} {a : Act} {w : World} (hi : ops[i]? = some o) (hw : Region.wanted o (yielded ops a.tmps) = true)
    (h : ∀ K : Act → World → Prop, (∀ a' w', R w w' → wpSeqR R P ops Q σ a' w' → K a' w') → o.wp P a w K Q) : wpSeqR R P ops Q ((i, false) :: σ) a w := by
  have := h (fun a' w' => R w w' ∧ wpSeqR R P ops Q σ a' w') (fun a' w' h1 h2 => ⟨h1, h2⟩)
  unfold wpSeqR wpOp
  simp only [hi, hw, if_true]
  exact .inl this
theorem wpSeqR_none {R : World → World → Prop} (hr : ∀ w, R w w) {i : Nat} {o : Oper} {σ : List (Nat × Bool)} {a : Act} {w : World} (hi : ops[i]? = some o) (hw : Region.wanted o (yielded ops a.tmps) = false)
    (h : wpSeqR R P ops Q σ (a.put o.dst undef) w) : wpSeqR R P ops Q ((i, false) :: σ) a w := by
  unfold wpSeqR wpOp
  simp only [hi, hw]
  exact ⟨hr _, h⟩

def wpSeq (P : Program) (ops : Array Oper) (Q : Exit → Act → World → Prop) (σ : List (Nat × Bool)) (a : Act) (w : World) : Prop := wpSeqR (fun w W => Below w.heap.size w W) P ops Q σ a w
theorem wp_region_seq {id : Nat} {a : Act} {w : World} (hm : P.follows .mixedOrders = true) (σ : List (Nat × Bool)) (hs : Region.noSelect ops = true) (hl : σ.length = ops.size) (hok : seqOK .any ops σ (Array.replicate ops.size false) = true)
    (h : ∀ w0, Below w.heap.size w w0 → wpSeq P ops (NoPanic Q) σ a w0) : (Code.region id ops true).wp P Q a w :=
  wp_region_seqR (fun w W => Below w.heap.size w W) (fun _ => Below.refl _ _) (fun _ _ _ => bel_step) hm σ hs hl hok (Below.refl _ _).drew h
theorem wpSeq_nil {a : Act} {w : World} (h : Q .normal a w) : wpSeq P ops (NoPanic Q) [] a w := h
theorem wpSeq_take {i : Nat} {o : Oper} {σ : List (Nat × Bool)} {a : Act} {w : World} {v : Value} (hi : ops[i]? = some o) (hw : Region.wanted o (yielded ops a.tmps) = true)
    (hy : ∀ W, Below w.heap.size w W → (execOp a.eval o).run P W = .ok (.value v) W) (h : wpSeq P ops Q σ (a.put o.dst v) w) : wpSeq P ops Q ((i, true) :: σ) a w := ⟨o, v, hi, .inl ⟨hw, hy⟩, h⟩
theorem wpSeq_skip {i : Nat} {o : Oper} {σ : List (Nat × Bool)} {a : Act} {w : World} (hi : ops[i]? = some o) (hw : Region.wanted o (yielded ops a.tmps) = false)
    (h : wpSeq P ops Q σ (a.put o.dst undef) w) : wpSeq P ops Q ((i, true) :: σ) a w := ⟨o, undef, hi, .inr ⟨hw, rfl⟩, h⟩
theorem wpSeq_exec {i : Nat} {o : Oper} {σ : List (Nat × Bool)} {a : Act} {w : World} (hi : ops[i]? = some o) (hw : Region.wanted o (yielded ops a.tmps) = true)
    (h : ∀ K : Act → World → Prop, (∀ a' w', Below w.heap.size w w' → wpSeq P ops Q σ a' w' → K a' w') → o.wp P a w K Q) : wpSeq P ops Q ((i, false) :: σ) a w := wpSeqR_exec hi hw h
theorem wpSeq_none {i : Nat} {o : Oper} {σ : List (Nat × Bool)} {a : Act} {w : World} (hi : ops[i]? = some o) (hw : Region.wanted o (yielded ops a.tmps) = false)
    (h : wpSeq P ops Q σ (a.put o.dst undef) w) : wpSeq P ops Q ((i, false) :: σ) a w := wpSeqR_none (fun _ => Below.refl _ _) hi hw h
end
end Go.Nst
end
section
namespace Go.Nst
open Go.RowKit

/-- a callee that leaves the world alone, in a region that only reads -/
theorem quiet_same {P : Program} {f : FuncId} {args : Array Value} {w : World} {n : Nat} {v : Value}
    (h : Calls P f args (w.drewN n) fun e w' => e = .returned v ∧ w.drewN n = w') : Calls P f args (w.drewN n) fun e w'' => e = .returned v ∧ ∃ m, w'' = w.drewN m :=
  h.mono fun _ _ ⟨he, hm⟩ => ⟨he, n, hm.symm⟩
theorem own_below {w w' : World} {base n c s : Nat} {e : TypeId} {A : Option Addr} {xs : List Value} (h : w.ownsRow base e s (.slice A n c) n xs) (hb : Below w.heap.size w w') : w'.ownsRow base e s (.slice A n c) n xs := by
  refine ⟨h.1, ?_⟩
  rcases h.2 with h2 | ⟨g, cap, cur, hv, hg, hh, r⟩
  · exact .inl h2
  · exact .inr ⟨g, cap, cur, hv, hg, (hb.block g (Array.getElem?_eq_some_iff.1 hh).1).trans hh, r⟩
theorem own_only {w w' : World} {base n c s : Nat} {e : TypeId} {A : Option Addr} {xs : List Value} {row : Option Nat} (h : w.ownsRow base e s (.slice A n c) n xs) (hg : w.grownBy w' row) (hne : ∀ g, (Value.slice A n c).ownBlock = some g → some g ≠ row) : w'.ownsRow base e s (.slice A n c) n xs := by
  refine ⟨h.1, ?_⟩
  rcases h.2 with h2 | ⟨g, cap, cur, hv, hb, hh, r⟩
  · exact .inl h2
  · refine .inr ⟨g, cap, cur, hv, hb, (hg.block g (Array.getElem?_eq_some_iff.1 hh).1 (hne g ?_)).trans hh, r⟩
    rw [hv]; rfl
/-- rows of unlike elements lie apart -/
theorem own_apart {w : World} {b1 b2 n1 c1 s1 n2 c2 s2 : Nat} {e1 e2 : TypeId} {A1 A2 : Option Addr} {xs ys : List Value} (h : w.ownsRow b1 e1 s1 (.slice A1 n1 c1) n1 xs) (k : w.ownsRow b2 e2 s2 (.slice A2 n2 c2) n2 ys) (hne : e1 ≠ e2) : ∀ g, (Value.slice A1 n1 c1).ownBlock = some g → some g ≠ (Value.slice A2 n2 c2).ownBlock := by
  intro g hg hk
  rcases h.2 with ⟨e, _⟩ | ⟨g1, _, cur1, hv, _, hh, _⟩
  · rw [e] at hg; simp [Value.ownBlock] at hg
  · rcases k.2 with ⟨e, _⟩ | ⟨g2, _, cur2, hv2, _, hh2, _⟩
    · rw [e] at hk; simp [Value.ownBlock] at hk
    · rw [hv] at hg
      rw [hv2] at hk
      simp [Value.ownBlock] at hg hk
      subst hg
      subst hk
      rw [hh] at hh2
      injection hh2 with hh2
      injection hh2 with _ hh2 _
      exact hne hh2
/-- a cell of the row is written anew -/
theorem own_set {w : World} {base n c : Nat} {e : TypeId} {A : Option Addr} {xs : List Value} (h : w.ownsRow base e 1 (.slice A n c) n xs) {g k : Nat} (hA : A = some ⟨g, 0, none⟩) (v : Value) : (w.setCell ⟨g, k, none⟩ v).ownsRow base e 1 (.slice A n c) n (xs.set k v) := by
  subst hA
  refine ⟨by rw [List.length_set]; exact h.1, ?_⟩
  rcases h.2 with ⟨e, rfl⟩ | ⟨g', cap, cur, hv, hg, hh, hnc, hcm, hcs, htake⟩
  · cases e
  · injection hv with hv1 hv2 hv3
    injection hv1 with hv1
    injection hv1 with hv1
    subst hv1
    subst hv3
    refine .inr ⟨g, c, cur.setIfInBounds k v, rfl, hg, ?_, hnc, hcm, by simpa using hcs, ?_⟩
    · simp [World.setCell, Array.getElem?_modify, hh]
    · have : (cur.setIfInBounds k v).toList = cur.toList.set k v := by simp
      rw [this, List.take_set, htake]
theorem own_where {w : World} {base n c s : Nat} {e : TypeId} {A : Option Addr} {xs : List Value} (h : w.ownsRow base e s (.slice A n c) n xs) (hn : 0 < n) : ∃ g, A = some ⟨g, 0, none⟩ ∧ base ≤ g ∧ g < w.heap.size ∧ ∀ i, w.frozen? ⟨g, i, none⟩ = false := by
  rcases h.2 with ⟨e, rfl⟩ | ⟨g, cap, cur, hv, hg, hh, r⟩
  · omega
  · injection hv with hv1 hv2 hv3
    exact ⟨g, hv1, hg, (Array.getElem?_eq_some_iff.1 hh).1, fun i => by simp [World.frozen?, hh]⟩
theorem own_mono {w : World} {base base' n c s : Nat} {e : TypeId} {A : Option Addr} {xs : List Value} (h : w.ownsRow base e s (.slice A n c) n xs) (hb : base' ≤ base) : w.ownsRow base' e s (.slice A n c) n xs := by
  refine ⟨h.1, ?_⟩
  rcases h.2 with h2 | ⟨g, cap, cur, hv, hg, r⟩
  · exact .inl h2
  · exact .inr ⟨g, cap, cur, hv, by omega, r⟩
theorem own_cap {w : World} {base n c s : Nat} {e : TypeId} {A : Option Addr} {xs : List Value} (h : w.ownsRow base e s (.slice A n c) n xs) : n ≤ c ∧ c ≤ 9223372036854775807 := by
  rcases h.2 with ⟨e, rfl⟩ | ⟨g, cap, cur, hv, hg, hh, hnc, hcm, r⟩
  · injection e with _ _ e; omega
  · injection hv with _ _ e; unfold maxLen at hcm; omega
/-- the first k are of one kind, the rest of another -/
def mixK {α β : Type} (f g : α → β) (l : List α) (k : Nat) : List β := (l.take k).map f ++ (l.drop k).map g
theorem mixK_zero {α β : Type} (f g : α → β) (l : List α) : mixK f g l 0 = l.map g := by simp [mixK]
theorem mixK_all {α β : Type} (f g : α → β) (l : List α) {k : Nat} (h : l.length ≤ k) : mixK f g l k = l.map f := by
  unfold mixK
  rw [List.take_of_length_le h, List.drop_of_length_le h]
  simp
theorem mixK_get {α β : Type} (f g : α → β) {l : List α} {k : Nat} {x : α} (h : l[k]? = some x) : (mixK f g l k)[k]? = some (g x) := by
  have hk := (List.getElem?_eq_some_iff.1 h).1
  unfold mixK
  rw [List.getElem?_append_right (by simp; omega)]
  simp
  rw [show k - min k l.length = 0 by omega]
  simpa using ⟨x, by simpa using h, rfl⟩
theorem mixK_set {α β : Type} (f g : α → β) {l : List α} {k : Nat} {x : α} (h : l[k]? = some x) : (mixK f g l k).set k (f x) = mixK f g l (k + 1) := by
  have hk := (List.getElem?_eq_some_iff.1 h).1
  unfold mixK
  rw [List.set_append_right _ _ (by simp; omega)]
  have e1 : k - ((l.take k).map f).length = 0 := by simp; omega
  have e2 : l.drop k = x :: l.drop (k + 1) := by rw [List.drop_eq_getElem_cons hk, (List.getElem?_eq_some_iff.1 h).2]
  rw [e1, e2, List.take_add_one, h]
  simp
end Go.Nst
end
end
section
namespace Go.Proofs.YtjjlmkleidbmhaaGreatDoor
open Go.ChangeShapes Go.WideShapes Go.ChangeAt Go.Deep
open Go.RowKit Go.Nst
set_option maxRecDepth 100000
set_option linter.unusedVariables false
set_option linter.unusedSimpArgs false

def i64P (n : Int) : Prop := -9223372036854775808 ≤ n ∧ n ≤ 9223372036854775807
/-- the four cells of a query -/
def qV (o n : Int) (s : List UInt8) (A : Option Addr) (k c : Nat) : Array Value := #[.int .i64 o, .int .i64 n, .string ⟨s.toArray⟩, .slice A k c]
/-- a value reads as a query, all of it in blocks of which S holds -/
inductive QAt (w : World) (S : Nat → Prop) : Array Value → Qy → Prop
  | mk {o n : Int} {s : List UInt8} {A : Option Addr} {k c : Nat} {l : List Qy} (V : Nat → Array Value) (hk : l.length = k) (ho : i64P o) (hn : i64P n) (hs : s.length ≤ 9223372036854775807) (hc : k ≤ c ∧ c ≤ 9223372036854775807)
      (hA : 0 < k → ∃ b off, A = some ⟨b, off, none⟩ ∧ S b ∧ b < w.heap.size ∧ ∀ (i j : Nat) (u : Value), i < k → (V i)[j]? = some u → w.cell? ⟨b, off + i * 4 + j, none⟩ = some u)
      (hq : ∀ (i : Nat) (q : Qy), l[i]? = some q → QAt w S (V i) q) : QAt w S (qV o n s A k c) ⟨o, n, s, l⟩
/-- a slice reads as a list of queries -/
def QsAt (w : World) (S : Nat → Prop) (A : Option Addr) (k : Nat) (l : List Qy) : Prop :=
  l.length = k ∧ ∃ V : Nat → Array Value, (0 < k → ∃ b off, A = some ⟨b, off, none⟩ ∧ S b ∧ b < w.heap.size ∧ ∀ (i j : Nat) (u : Value), i < k → (V i)[j]? = some u → w.cell? ⟨b, off + i * 4 + j, none⟩ = some u) ∧ ∀ (i : Nat) (q : Qy), l[i]? = some q → QAt w S (V i) q

section
variable {w w' : World} {S S' : Nat → Prop} {v : Array Value} {q : Qy} {A : Option Addr} {k : Nat} {l : List Qy}
theorem QAt.open_ (h : QAt w S v q) : ∃ A c, v = qV q.op q.n q.s A q.kids.length c ∧ i64P q.op ∧ i64P q.n ∧ q.s.length ≤ 9223372036854775807 ∧ q.kids.length ≤ c ∧ c ≤ 9223372036854775807 ∧ QsAt w S A q.kids.length q.kids := by
  cases h with
  | mk V hk ho hn hs hc hA hq => subst hk; exact ⟨_, _, rfl, ho, hn, hs, hc.1, hc.2, rfl, V, hA, hq⟩
theorem QAt.make {o n : Int} {s : List UInt8} {c : Nat} (ho : i64P o) (hn : i64P n) (hs : s.length ≤ 9223372036854775807) (hc : k ≤ c ∧ c ≤ 9223372036854775807) (h : QsAt w S A k l) : QAt w S (qV o n s A k c) ⟨o, n, s, l⟩ := by
  obtain ⟨hk, V, hA, hq⟩ := h
  exact .mk V hk ho hn hs hc hA hq
theorem QsAt.nil : QsAt w S none 0 [] := ⟨rfl, fun _ => #[], fun h => absurd h (by omega), by simp⟩
theorem QAt.size4 (h : QAt w S v q) : v.size = 4 := by cases h; rfl
theorem QAt.keep (hS : ∀ b, S b → b < w.heap.size → w'.heap[b]? = w.heap[b]?) (hz : w.heap.size ≤ w'.heap.size) (hSS : ∀ b, S b → b < w.heap.size → S' b) (h : QAt w S v q) : QAt w' S' v q := by
  induction h with
  | mk V hk ho hn hs hc hA hq ih =>
    refine .mk V hk ho hn hs hc (fun h0 => ?_) ih
    obtain ⟨b, off, e, hb, hlt, hcell⟩ := hA h0
    refine ⟨b, off, e, hSS b hb hlt, by omega, fun i j u hi hu => ?_⟩
    rw [World.cell?_of_block (hS b hb hlt)]
    exact hcell i j u hi hu
theorem QsAt.keep (hS : ∀ b, S b → b < w.heap.size → w'.heap[b]? = w.heap[b]?) (hz : w.heap.size ≤ w'.heap.size) (hSS : ∀ b, S b → b < w.heap.size → S' b) (h : QsAt w S A k l) : QsAt w' S' A k l := by
  obtain ⟨hk, V, hA, hq⟩ := h
  refine ⟨hk, V, fun h0 => ?_, fun i q hi => (hq i q hi).keep hS hz hSS⟩
  obtain ⟨b, off, e, hb, hlt, hcell⟩ := hA h0
  refine ⟨b, off, e, hSS b hb hlt, by omega, fun i j u hi hu => ?_⟩
  rw [World.cell?_of_block (hS b hb hlt)]
  exact hcell i j u hi hu
theorem QAt.bel (h : QAt w S v q) (hb : Below w.heap.size w w') : QAt w' S v q := h.keep (fun b _ hlt => hb.block b hlt) hb.size (fun _ h _ => h)
theorem QsAt.bel (h : QsAt w S A k l) (hb : Below w.heap.size w w') : QsAt w' S A k l := h.keep (fun b _ hlt => hb.block b hlt) hb.size (fun _ h _ => h)
theorem QAt.wide (h : QAt w S v q) (hSS : ∀ b, S b → b < w.heap.size → S' b) : QAt w S' v q := h.keep (fun _ _ _ => rfl) (Nat.le_refl _) hSS
theorem QsAt.wide (h : QsAt w S A k l) (hSS : ∀ b, S b → b < w.heap.size → S' b) : QsAt w S' A k l := h.keep (fun _ _ _ => rfl) (Nat.le_refl _) hSS
/-- where something was written into block g alone, of which S does not hold -/
theorem QAt.grown (h : QAt w S v q) {row : Option Nat} (hg : w.grownBy w' row) (hS : ∀ g, row = some g → ¬ S g) : QAt w' S v q :=
  h.keep (fun b hb hlt => hg.block b hlt (fun e => hS b e.symm hb)) hg.size (fun _ h _ => h)
theorem QsAt.grown (h : QsAt w S A k l) {row : Option Nat} (hg : w.grownBy w' row) (hS : ∀ g, row = some g → ¬ S g) : QsAt w' S A k l :=
  h.keep (fun b hb hlt => hg.block b hlt (fun e => hS b e.symm hb)) hg.size (fun _ h _ => h)
/-- the i-th one: its cells -/
theorem QsAt.at (h : QsAt w S A k l) {i : Nat} (hi : i < k) : ∃ (q : Qy) (B : Option Addr) (c b off : Nat), Hid (l[i]? = some q) ∧ A = some ⟨b, off, none⟩ ∧ S b ∧ b < w.heap.size ∧ Hid (QAt w S (qV q.op q.n q.s B q.kids.length c) q) ∧ i64P q.op ∧ i64P q.n ∧ q.s.length ≤ 9223372036854775807 ∧ q.kids.length ≤ c ∧ c ≤ 9223372036854775807 ∧
    w.cell? ⟨b, off + i * 4, none⟩ = some (.int .i64 q.op) ∧ w.cell? ⟨b, off + i * 4 + 1, none⟩ = some (.int .i64 q.n) ∧ w.cell? ⟨b, off + i * 4 + 2, none⟩ = some (.string ⟨q.s.toArray⟩) ∧ w.cell? ⟨b, off + i * 4 + 3, none⟩ = some (.slice B q.kids.length c) := by
  obtain ⟨hk, V, hA, hq⟩ := h
  obtain ⟨b, off, e, hS, hb, hc⟩ := hA (by omega)
  have hg : l[i]? = some (l[i]'(by omega)) := List.getElem?_eq_getElem (by omega)
  have hv := hq i _ hg
  generalize l[i]'(by omega) = q at *
  obtain ⟨B, c, hv2, h1, h2, h3, h4, h5, _⟩ := hv.open_
  have f := fun j u => hc i j u hi
  rw [hv2] at f hv
  exact ⟨q, B, c, b, off, hg, e, hS, hb, hv, h1, h2, h3, h4, h5, f 0 _ rfl, f 1 _ rfl, f 2 _ rfl, f 3 _ rfl⟩
end
/-- a query that came in -/
theorem open_query_cells {H : Type} {enc : TypeId × Value → H} {W : World} : ∀ (n : Nat) (cs : List Value) (y : DataW H × List MemPlace), DataW.trod enc Tryz.prog W 0 (fun _ => true) true n 25 cs = some y → ∃ q, QAt W (fun _ => True) cs.toArray q := by
  intro n
  induction n using Nat.strongRecOn with
  | _ n ih =>
    intro cs y h
    obtain ⟨xs, m, hm, _, hlen, hxl, hf⟩ := DataW.trod_struct Tryz.underlying25 h
    have hC : Tryz.prog.cellsOf 25 = 4 := by kernel_rfl
    rw [hC] at hlen
    obtain ⟨c0, c1, c2, c3, rfl⟩ : ∃ c0 c1 c2 c3, cs = [c0, c1, c2, c3] := by
      match cs, hlen with
      | [c0, c1, c2, c3], _ => exact ⟨c0, c1, c2, c3, rfl⟩
    have hi : Tryz.prog.cellsOf 3 = 1 := by kernel_rfl
    have hst : Tryz.prog.cellsOf 9 = 1 := by kernel_rfl
    have hsl : Tryz.prog.cellsOf 23 = 1 := by kernel_rfl
    match xs, hxl with
    | [y0, y1, y2, y3], _ =>
      have t0 := hf 0 _ rfl
      have t1 := hf 1 _ rfl
      have t2 := hf 2 _ rfl
      have t3 := hf 3 _ rfl
      simp only [hi, hst, hsl, List.drop_zero, List.drop_succ_cons, List.take_succ_cons, List.take_zero, List.getElem?_cons_zero, List.getElem?_cons_succ] at t0 t1 t2 t3
      obtain ⟨o, e0, _, b0⟩ := DataW.trod_int Tryz.underlying3 t0
      obtain ⟨nn, e1, _, b1⟩ := DataW.trod_int Tryz.underlying3 t1
      obtain ⟨s, e2, _, b2⟩ := DataW.trod_string Tryz.underlying9 t2
      injection e0 with e0
      injection e1 with e1
      injection e2 with e2
      subst e0
      subst e1
      subst e2
      have hs : s = ⟨s.data.toList.toArray⟩ := by simp
      have hsz : s.data.toList.length ≤ 9223372036854775807 := by have : s.data.toList.length = s.size := Array.length_toList; unfold maxLen at b2; omega
      rw [hs]
      generalize s.data.toList = sl at *
      rcases DataW.trod_slice Tryz.underlying23 t3 with ⟨e3, _⟩ | ⟨a, len, cap, elems, rest, n', hn', e3, _, _, hl, hm', hel, hx, _, _⟩
      · injection e3 with e3
        subst e3
        exact ⟨⟨o, nn, sl, []⟩, .mk (fun _ => #[]) rfl (bounds_i64 b0) (bounds_i64 b1) hsz ⟨Nat.le_refl _, by omega⟩ (fun h => absurd h (by omega)) (by simp)⟩
      · injection e3 with e3
        subst e3
        unfold maxLen at hm'
        rw [hC] at hx
        have hsub : ∀ i, i < len → ∃ p : Array Value × Qy, p.1.size = 4 ∧ (∀ j, j < 4 → W.cell? ((a.add (i * 4)).add j) = p.1[j]?) ∧ QAt W (fun _ => True) p.1 p.2 := by
          intro i hi
          have hxi := hx i hi
          rw [List.getElem?_eq_getElem (by omega)] at hxi
          obtain ⟨cs', h1, h2⟩ := Option.bind_eq_some_iff.1 hxi
          obtain ⟨q, hq⟩ := ih n' (by omega) cs' _ h2
          obtain ⟨_, hl4, hc⟩ := World.cells?_some h1
          exact ⟨⟨cs'.toArray, q⟩, by simpa using hl4, fun j hj => by rw [hc j hj]; simp, hq⟩
        haveI : Inhabited (Array Value × Qy) := ⟨⟨#[], .zero⟩⟩
        obtain ⟨f, hf⟩ := choose_lt hsub
        refine ⟨⟨o, nn, sl, (List.range len).map fun i => (f i).2⟩, .mk (fun i => (f i).1) (by simp) (bounds_i64 b0) (bounds_i64 b1) hsz ⟨hl, hm'⟩ (fun h0 => ?_) (fun i q hq => ?_)⟩
        · have h1 := (hf 0 h0).2.1 0 (by omega)
          have h2 : ∃ u, (f 0).1[0]? = some u := ⟨_, Array.getElem?_eq_getElem (by have := (hf 0 h0).1; omega)⟩
          obtain ⟨u, hu⟩ := h2
          rw [hu] at h1
          obtain ⟨b, off, spot⟩ := a
          have hsp : spot = none := by
            have := World.cell?_spot h1
            simpa [Addr.add] using this
          subst hsp
          have hb : b < W.heap.size := by
            have := World.block_lt_of_cell? W _ h1
            rwa [block_of_add, block_of_add] at this
          refine ⟨b, off, rfl, trivial, hb, fun i j u hi hu => ?_⟩
          have hj : j < 4 := by
            have := (hf i hi).1
            rcases Nat.lt_or_ge j 4 with h | h
            · exact h
            · rw [Array.getElem?_eq_none (by omega)] at hu; cases hu
          have h3 := (hf i hi).2.1 j hj
          rw [hu, add_lit, add_lit] at h3
          exact h3
        · have hi : i < len := by
            rcases Nat.lt_or_ge i len with h | h
            · exact h
            · rw [List.getElem?_eq_none (by simpa using h)] at hq; cases hq
          simp only [List.getElem?_map, List.getElem?_range hi, Option.map_some] at hq
          injection hq with hq
          rw [← hq]
          exact (hf i hi).2.2
/-- a query that came in -/
theorem open_query {H : Type} {enc : TypeId × Value → H} {W : World} {base : Nat} {v : Value} {d : DataW H} {p : List MemPlace} (hv : Value.okWide Tryz.prog W .any base 25 v) (h0 : DataW.Trod enc Tryz.prog W 0 (fun _ => true) true 25 v d p) :
    ∃ vs q, v = .agg vs ∧ QAt W (fun _ => True) vs q := by
  obtain ⟨v0, v1, v2, v3, y0, y1, y2, y3, n, rfl, _, _, k0, k1, k2, k3⟩ := Joins.open_agg4 Tryz.underlying25 (by kernel_rfl) (by kernel_rfl) hv h0
  obtain ⟨o, e0, _, b0⟩ := DataW.trod_int Tryz.underlying3 k0
  obtain ⟨nn, e1, _, b1⟩ := DataW.trod_int Tryz.underlying3 k1
  obtain ⟨s, e2, _, b2⟩ := DataW.trod_string Tryz.underlying9 k2
  injection e0 with e0
  injection e1 with e1
  injection e2 with e2
  have h3 : ∃ A len cap, v3 = .slice A len cap := by
    rcases DataW.trod_slice Tryz.underlying23 k3 with ⟨e3, _⟩ | ⟨a, len, cap, elems, rest, n', hn', e3, _⟩
    · injection e3 with e3; exact ⟨_, _, _, e3⟩
    · injection e3 with e3; exact ⟨_, _, _, e3⟩
  obtain ⟨A, len, cap, e3⟩ := h3
  subst e0
  subst e1
  subst e2
  subst e3
  obtain ⟨fuel, hf⟩ := h0
  obtain ⟨q, hq⟩ := open_query_cells fuel _ _ hf
  exact ⟨_, q, rfl, hq⟩
end Go.Proofs.YtjjlmkleidbmhaaGreatDoor
end
