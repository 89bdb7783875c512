/-
  A slice of runes that reads as a list; the code's Runes and Count.
-/
import Derived.Test.YtleachcokgjocaaUtfB
import Derived.Test.YtleachcokgjocaaUtfQ
import Derived.Lib.OthersKept
namespace Go.Proofs.Ytleachcokgjocaa
open Go.RowKit Go.Nst
set_option maxRecDepth 100000
set_option linter.unusedVariables false

def rv (l : List Int) : List Value := l.map fun z => Value.int .i32 z
theorem rv_len (l : List Int) : (rv l).length = l.length := by simp [rv]
theorem rv_one (l : List Int) : ∀ u ∈ rv l, u.oneCell' = true := by
  intro u hu
  simp only [rv, List.mem_map] at hu
  obtain ⟨x, _, rfl⟩ := hu
  rfl
/-- a slice of runes reads as a list -/
def Rn (w : World) (A : Option Addr) (n : Nat) (l : List Int) : Prop := Reads w w.heap.size 1 A n (rv l)
theorem Rn.len {w : World} {A : Option Addr} {n : Nat} {l : List Int} (h : Rn w A n l) : l.length = n := by have := h.1; rw [rv_len] at this; omega
theorem Rn.below {w w' : World} {A : Option Addr} {n : Nat} {l : List Int} (h : Rn w A n l) (hb : Below w.heap.size w w') : Rn w' A n l := (Reads.below h hb).more hb.size
theorem Rn.at {w : World} {A : Option Addr} {n k : Nat} {l : List Int} (h : Rn w A n l) (hk : k < n) : ∃ (z : Int) (b off : Nat), A = some ⟨b, off, none⟩ ∧ Hid (l[k]? = some z) ∧ b < w.heap.size ∧ w.cell? ⟨b, off + k, none⟩ = some (.int .i32 z) := by
  obtain ⟨u, b, off, e, hu, hb, hc⟩ := Reads.plain h hk
  have hu' := hu.out
  rw [rv, List.getElem?_map, Option.map_eq_some_iff] at hu'
  obtain ⟨z, hz, rfl⟩ := hu'
  exact ⟨z, b, off, e, hz, hb, hc⟩
theorem Rn.const (w : World) (l : List Int) (cs : Array Value) (t : TypeId) (fr : Nat × Nat) (n : Nat) (hn : l.length = n) (hcs : cs.toList = rv l) : Rn (w.alloc (.cells cs t fr)) (some ⟨w.heap.size, 0, none⟩) n l := by
  refine ⟨by rw [rv_len]; omega, fun _ => ⟨_, rfl, by simp, fun j u hu => ?_⟩⟩
  rw [add_lit, Nat.zero_add, cell_of_row _ w.heap.size j cs t fr (heap_alloc_new w _)]
  rw [← hcs] at hu
  simpa using hu
/-- a row of runes of the call's own -/
def On (w : World) (base : Nat) (A : Option Addr) (n c : Nat) (l : List Int) : Prop := w.ownsRow base 21 1 (.slice A n c) n (rv l)
theorem On.rn {w : World} {base n c : Nat} {A : Option Addr} {l : List Int} (h : On w base A n c l) : Rn w A n l := Reads.of_own h
theorem On.nil {w : World} {base : Nat} : On w base none 0 0 [] := World.ownsRow_nil _ _ _ _
theorem On.blk {w : World} {base n c : Nat} {A : Option Addr} {l : List Int} (h : On w base A n c l) : ∀ k, (Value.slice A n c).ownBlock = some k → base ≤ k ∧ k < w.heap.size := h.lt
theorem On.mono {w : World} {base base' n c : Nat} {A : Option Addr} {l : List Int} (h : On w base A n c l) (hb : base' ≤ base) : On w base' A n c l := by
  refine ⟨h.1, ?_⟩
  rcases h.2 with h2 | ⟨g, cap, cur, hv, hg, r⟩
  · exact .inl h2
  · exact .inr ⟨g, cap, cur, hv, by omega, r⟩
theorem On.below {w w' : World} {base n c : Nat} {A : Option Addr} {l : List Int} (h : On w base A n c l) (hb : Below w.heap.size w w') : On w' base A n c l := by
  refine ⟨h.1, ?_⟩
  rcases h.2 with h2 | ⟨g, cap, cur, hv, hg, hh, r⟩
  · exact .inl h2
  · exact .inr ⟨g, cap, cur, hv, hg, (hb.block g (Array.getElem?_eq_some_iff.1 hh).1).trans hh, r⟩
/-- an iterator below the row moves on -/
theorem On.iterAt {w : World} {base n c : Nat} {A : Option Addr} {l : List Int} (h : On w base A n c l) {k : Nat} (hk : k < base) (s : ByteArray) (pos : Nat) : On (w.iterAt k s pos) base A n c l := by
  refine ⟨h.1, ?_⟩
  rcases h.2 with h2 | ⟨g, cap, cur, hv, hg, hh, r⟩
  · exact .inl h2
  · exact .inr ⟨g, cap, cur, hv, hg, (Lib.iterAt_other w k g s pos (by omega)).trans hh, r⟩
theorem iRunes : Info Try.prog 23 21 (.int .i32 0) 1 4 := Info.mk_ Try.underlying23 (by kernel_rfl) rfl (by omega)
/-- append of runes onto a row of runes of the call's own -/
theorem wpList_appR (w : World) {ops : Array Oper} {rest : List Oper} {o : Oper} {a : Act} {Q : Exit → Act → World → Prop} {s x : Operand} (hgd : o.guard = none)
    (ho : o.op = .call { callee := .builtin .append, args := #[s, x], argTypes := #[23, 23] })
    {base : Nat} {A0 : Option Addr} {n c0 : Nat} {l0 : List Int} (hs : a.eval s = .slice A0 n c0) (hown : On w base A0 n c0 l0)
    {A : Option Addr} {m c : Nat} {l : List Int} (hx : a.eval x = .slice A m c) (hr : Rn w A m l) (k : Nat) (lr : List Int) (hk : n + m = k) (hlr : l0 ++ l = lr)
    (hbytes : n + m ≤ 1000000000) (hbase : base ≤ w.heap.size)
    (h : ∀ A' c' w', On w' base A' k c' lr → Below base w w' → wpList Try.prog ops Q rest (a.put o.dst (.slice A' k c')) w') : wpList Try.prog ops Q (o :: rest) a w := by
  subst hk
  subst hlr
  exact wpList_app w iRunes hgd ho hs hown hx hr (rv_one _) (by unfold maxLen; omega) (by omega) hbase fun A' c' w' h2 h3 h4 =>
    h A' c' w' (by unfold On; rw [rv, List.map_append]; exact h2) ((Below.refl _ _).grown h3 hbase (fun k hk => (hown.blk k hk).1))

def RetRn (w : World) (l : List Int) (e : Ending) (w' : World) : Prop := ∃ A n c, e = .returned (.slice A n c) ∧ On w' w.heap.size A n c l ∧ Below w.heap.size w w'
theorem decode_bl (s : ByteArray) (pos : Nat) (h : pos < s.size) : Utf8.decode s pos = firstL ((bl s).drop pos) := by
  have := decode_first (bl s) pos (by rw [bl_len]; exact h)
  rwa [bl_mk] at this
theorem drop_ne {l : List UInt8} {pos : Nat} (h : pos < l.length) : l.drop pos ≠ [] := by
  intro e
  have := congrArg List.length e
  simp at this
  omega
theorem runes_round {l : List UInt8} {pos : Nat} {acc tot : List Int} (h : tot = acc ++ runesI (l.drop pos)) (hp : pos < l.length) : tot = (acc ++ [((firstL (l.drop pos)).1 : Int)]) ++ runesI (l.drop (pos + (firstL (l.drop pos)).2)) := by
  rw [h, runesI_step (drop_ne hp), List.drop_drop]
  simp
theorem runes_end {l : List UInt8} {pos : Nat} {acc tot : List Int} (h : tot = acc ++ runesI (l.drop pos)) (hp : ¬ pos < l.length) : tot = acc := by
  rw [h, List.drop_of_length_le (by omega)]
  simp [runesI, runesL_nil]

set_option maxHeartbeats 2000000 in
theorem runes_any (s : ByteArray) (w : World) (hS : s.size ≤ 1000000) : Calls Try.prog 10 #[.string s] w (RetRn w (runesI (bl s))) := by
  have HT := Lib.hid (show runesI (bl s) = [] ++ runesI ((bl s).drop 0) from rfl)
  have hbl := bl_len s
  generalize runesI (bl s) = tot at *
  go_enter Try.func10, Try.ntmps10
  go_wp2_with fail
  go_loopw [3] (fun v wr => ∃ (pos m : Nat) (A2 : Option Addr) (c2 : Nat) (acc : List Int), v = .slice A2 m c2 ∧ m ≤ pos ∧ pos ≤ s.size ∧ On wr (w.heap.size + 1) A2 m c2 acc ∧ wr.heap[w.heap.size]? = some (.stringIter s pos) ∧ Below w.heap.size w wr ∧ Hid (tot = acc ++ runesI ((bl s).drop pos))) (fun _ wr => s.size - wr.iterPos w.heap.size)
  case atStart =>
    refine ⟨0, 0, none, 0, [], rfl, by omega, by omega, On.nil, ?_, bel_alloc (Below.refl _ _) _, HT⟩
    have := World.iter_heap w s 0
    simpa using this
  case round =>
    obtain ⟨pos, m, A2, c2, acc, rfl, hm, hps, hO, hit, hbw, HR⟩ := hrel
    have hsz : w.heap.size < wr.heap.size := (Array.getElem?_eq_some_iff.1 hit).1
    by_cases hp : pos < s.size
    · have hnx : ∀ ty, (Instr.next (.pointer (some ⟨w.heap.size, 0, none⟩)) true ty).run Try.prog wr = _ := fun ty => Lib.run_next_any_at wr w.heap.size s pos ty hit hp
      have hw1 := firstL_width ((bl s).drop pos) (drop_ne (by omega))
      have HN := Lib.hid (runes_round HR.out (by omega))
      have hle : pos + (firstL ((bl s).drop pos)).2 ≤ s.size := by have := hw1.2.2; rw [List.length_drop, hbl] at this; omega
      rw [decode_bl s pos hp] at hnx
      generalize firstL ((bl s).drop pos) = f at *
      have hO2 := hO.iterAt (k := w.heap.size) (by omega) s (pos + f.2)
      have hit2 := Lib.iterAt_heap wr w.heap.size s pos (pos + f.2) hit
      have hbw2 := Lib.below_iterAt hbw (k := w.heap.size) (by omega) s (pos + f.2)
      have hsz2 : w.heap.size < (wr.iterAt w.heap.size s (pos + f.2)).heap.size := by rw [Lib.iterAt_size]; omega
      have hO3 := hO2.below (bel_alloc (Below.refl _ _) (.cells #[.int .i32 (f.1 : Int)] 21))
      have hB3 := Rn.const (wr.iterAt w.heap.size s (pos + f.2)) [(f.1 : Int)] #[.int .i32 (f.1 : Int)] 21 (0, 0) 1 rfl rfl
      go_wp2_with (at_builtin; refine wpList_appR _ rfl rfl rfl hO3 rfl hB3 (m + 1) (acc ++ [(f.1 : Int)]) rfl rfl (by omega) (by simp; omega) ?_; intro A' c' w' ho hb)
      have hit3 : w'.heap[w.heap.size]? = some (.stringIter s (pos + f.2)) := by
        rw [hb.block _ (by omega), Below.heap_alloc _ _ _ hsz2]
        exact hit2
      go_roundw
      case rel => exact ⟨pos + f.2, m + 1, A', c', acc ++ [(f.1 : Int)], rfl, by omega, hle, ho, hit3, (hbw2.alloc (by omega) _).trans (hb.mono (by omega)), HN⟩
      case measure =>
        simp only [World.iterPos, hit3, hit]
        omega
    · have hnx : ∀ ty, (Instr.next (.pointer (some ⟨w.heap.size, 0, none⟩)) true ty).run Try.prog wr = _ := fun ty => Lib.run_next_end_at wr w.heap.size s pos ty hit hp
      have HE := Lib.hid (runes_end HR.out (by omega))
      go_wp2_with fail
      go_ret
      rw [HE.out]
      exact ⟨A2, m, c2, rfl, hO.mono (by omega), hbw⟩
end Go.Proofs.Ytleachcokgjocaa
