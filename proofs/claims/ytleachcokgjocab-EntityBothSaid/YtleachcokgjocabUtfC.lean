/-
  A slice of runes that reads as a list; the code's Runes and Count.
-/
import Derived.Test.YtleachcokgjocabUtfB
import Derived.Test.YtleachcokgjocabUtfQ
import Derived.Lib.OthersKept
namespace Go.Proofs.Ytleachcokgjocab
open Go.RowKit Go.Nst
set_option maxRecDepth 100000
set_option linter.unusedVariables false

def rv (l : List Int) : List Value := l.map fun z => Value.int .i32 z
theorem rv_len (l : List Int) : (rv l).length = l.length := by simp [rv]
theorem rv_one (l : List Int) : ∀ u ∈ rv l, u.oneCell' = true := by
  intro u hu
  simp only [rv, List.mem_map] at hu
  obtain ⟨x, _, rfl⟩ := hu
  rfl
/-- a slice of runes reads as a list -/
def Rn (w : World) (A : Option Addr) (n : Nat) (l : List Int) : Prop := Reads w w.heap.size 1 A n (rv l)
theorem Rn.len {w : World} {A : Option Addr} {n : Nat} {l : List Int} (h : Rn w A n l) : l.length = n := by have := h.1; rw [rv_len] at this; omega
theorem Rn.below {w w' : World} {A : Option Addr} {n : Nat} {l : List Int} (h : Rn w A n l) (hb : Below w.heap.size w w') : Rn w' A n l := (Reads.below h hb).more hb.size
theorem Rn.at {w : World} {A : Option Addr} {n k : Nat} {l : List Int} (h : Rn w A n l) (hk : k < n) : ∃ (z : Int) (b off : Nat), A = some ⟨b, off, none⟩ ∧ Hid (l[k]? = some z) ∧ b < w.heap.size ∧ w.cell? ⟨b, off + k, none⟩ = some (.int .i32 z) := by
  obtain ⟨u, b, off, e, hu, hb, hc⟩ := Reads.plain h hk
  have hu' := hu.out
  rw [rv, List.getElem?_map, Option.map_eq_some_iff] at hu'
  obtain ⟨z, hz, rfl⟩ := hu'
  exact ⟨z, b, off, e, hz, hb, hc⟩
theorem Rn.const (w : World) (l : List Int) (cs : Array Value) (t : TypeId) (fr : Nat × Nat) (n : Nat) (hn : l.length = n) (hcs : cs.toList = rv l) : Rn (w.alloc (.cells cs t fr)) (some ⟨w.heap.size, 0, none⟩) n l := by
  refine ⟨by rw [rv_len]; omega, fun _ => ⟨_, rfl, by simp, fun j u hu => ?_⟩⟩
  rw [add_lit, Nat.zero_add, cell_of_row _ w.heap.size j cs t fr (heap_alloc_new w _)]
  rw [← hcs] at hu
  simpa using hu
/-- a row of runes of the call's own -/
def On (w : World) (base : Nat) (A : Option Addr) (n c : Nat) (l : List Int) : Prop := w.ownsRow base 21 1 (.slice A n c) n (rv l)
theorem On.rn {w : World} {base n c : Nat} {A : Option Addr} {l : List Int} (h : On w base A n c l) : Rn w A n l := Reads.of_own h
theorem On.nil {w : World} {base : Nat} : On w base none 0 0 [] := World.ownsRow_nil _ _ _ _
theorem On.blk {w : World} {base n c : Nat} {A : Option Addr} {l : List Int} (h : On w base A n c l) : ∀ k, (Value.slice A n c).ownBlock = some k → base ≤ k ∧ k < w.heap.size := h.lt
theorem On.mono {w : World} {base base' n c : Nat} {A : Option Addr} {l : List Int} (h : On w base A n c l) (hb : base' ≤ base) : On w base' A n c l := by
  refine ⟨h.1, ?_⟩
  rcases h.2 with h2 | ⟨g, cap, cur, hv, hg, r⟩
  · exact .inl h2
  · exact .inr ⟨g, cap, cur, hv, by omega, r⟩
theorem On.below {w w' : World} {base n c : Nat} {A : Option Addr} {l : List Int} (h : On w base A n c l) (hb : Below w.heap.size w w') : On w' base A n c l := by
  refine ⟨h.1, ?_⟩
  rcases h.2 with h2 | ⟨g, cap, cur, hv, hg, hh, r⟩
  · exact .inl h2
  · exact .inr ⟨g, cap, cur, hv, hg, (hb.block g (Array.getElem?_eq_some_iff.1 hh).1).trans hh, r⟩
/-- an iterator below the row moves on -/
theorem On.iterAt {w : World} {base n c : Nat} {A : Option Addr} {l : List Int} (h : On w base A n c l) {k : Nat} (hk : k < base) (s : ByteArray) (pos : Nat) : On (w.iterAt k s pos) base A n c l := by
  refine ⟨h.1, ?_⟩
  rcases h.2 with h2 | ⟨g, cap, cur, hv, hg, hh, r⟩
  · exact .inl h2
  · exact .inr ⟨g, cap, cur, hv, hg, (Lib.iterAt_other w k g s pos (by omega)).trans hh, r⟩
theorem iRunes : Info Try.prog 46 21 (.int .i32 0) 1 4 := Info.mk_ Try.underlying46 (by kernel_rfl) rfl (by omega)
/-- append of runes onto a row of runes of the call's own -/
theorem wpList_appR (w : World) {ops : Array Oper} {rest : List Oper} {o : Oper} {a : Act} {Q : Exit → Act → World → Prop} {s x : Operand} (hgd : o.guard = none)
    (ho : o.op = .call { callee := .builtin .append, args := #[s, x], argTypes := #[46, 46] })
    {base : Nat} {A0 : Option Addr} {n c0 : Nat} {l0 : List Int} (hs : a.eval s = .slice A0 n c0) (hown : On w base A0 n c0 l0)
    {A : Option Addr} {m c : Nat} {l : List Int} (hx : a.eval x = .slice A m c) (hr : Rn w A m l) (k : Nat) (lr : List Int) (hk : n + m = k) (hlr : l0 ++ l = lr)
    (hbytes : n + m ≤ 1000000000) (hbase : base ≤ w.heap.size)
    (h : ∀ A' c' w', On w' base A' k c' lr → Below base w w' → wpList Try.prog ops Q rest (a.put o.dst (.slice A' k c')) w') : wpList Try.prog ops Q (o :: rest) a w := by
  subst hk
  subst hlr
  exact wpList_app w iRunes hgd ho hs hown hx hr (rv_one _) (by unfold maxLen; omega) (by omega) hbase fun A' c' w' h2 h3 h4 =>
    h A' c' w' (by unfold On; rw [rv, List.map_append]; exact h2) ((Below.refl _ _).grown h3 hbase (fun k hk => (hown.blk k hk).1))

def RetRn (w : World) (l : List Int) (e : Ending) (w' : World) : Prop := ∃ A n c, e = .returned (.slice A n c) ∧ On w' w.heap.size A n c l ∧ Below w.heap.size w w'
theorem decode_bl (s : ByteArray) (pos : Nat) (h : pos < s.size) : Utf8.decode s pos = firstL ((bl s).drop pos) := by
  have := decode_first (bl s) pos (by rw [bl_len]; exact h)
  rwa [bl_mk] at this
theorem drop_ne {l : List UInt8} {pos : Nat} (h : pos < l.length) : l.drop pos ≠ [] := by
  intro e
  have := congrArg List.length e
  simp at this
  omega
theorem runes_round {l : List UInt8} {pos : Nat} {acc tot : List Int} (h : tot = acc ++ runesI (l.drop pos)) (hp : pos < l.length) : tot = (acc ++ [((firstL (l.drop pos)).1 : Int)]) ++ runesI (l.drop (pos + (firstL (l.drop pos)).2)) := by
  rw [h, runesI_step (drop_ne hp), List.drop_drop]
  simp
theorem runes_end {l : List UInt8} {pos : Nat} {acc tot : List Int} (h : tot = acc ++ runesI (l.drop pos)) (hp : ¬ pos < l.length) : tot = acc := by
  rw [h, List.drop_of_length_le (by omega)]
  simp [runesI, runesL_nil]

end Go.Proofs.Ytleachcokgjocab
