/-
  Queries' texts and what they lean on, part 7: only what the claims need.
-/
import Derived.Test.YtjjlmkleidbmhaaGreatDoorZ01
import Derived.Test.YtjjlmkleidbmhaaGreatDoorZ06
section
namespace Go.Proofs.YtjjlmkleidbmhaaGreatDoor
open Go.RowKit Go.Nst
set_option maxRecDepth 100000
set_option linter.unusedVariables false
set_option linter.unusedSimpArgs false

/-- texts as cells -/
def sv (l : List (List UInt8)) : List Value := l.map fun x => Value.string ⟨x.toArray⟩
/-- a row of texts of the call's own -/
def Os (w : World) (base : Nat) (A : Option Addr) (n c : Nat) (l : List (List UInt8)) : Prop := w.ownsRow base 9 1 (.slice A n c) n (sv l)
/-- a slice of texts reads as a list -/
def Ss (w : World) (A : Option Addr) (n : Nat) (l : List (List UInt8)) : Prop := Reads w w.heap.size 1 A n (sv l)
theorem Os.ss {w : World} {base n c : Nat} {A : Option Addr} {l : List (List UInt8)} (h : Os w base A n c l) : Ss w A n l := Reads.of_own h
theorem Ss.len {w : World} {A : Option Addr} {n : Nat} {l : List (List UInt8)} (h : Ss w A n l) : l.length = n := by have := h.1; simpa [sv] using this
theorem Ss.below {w w' : World} {A : Option Addr} {n : Nat} {l : List (List UInt8)} (h : Ss w A n l) (hb : Below w.heap.size w w') : Ss w' A n l := (Reads.below h hb).more hb.size
theorem Ss.at {w : World} {A : Option Addr} {n k : Nat} {l : List (List UInt8)} (h : Ss w A n l) (hk : k < n) : ∃ (x : List UInt8) (b off : Nat), A = some ⟨b, off, none⟩ ∧ Hid (l[k]? = some x) ∧ b < w.heap.size ∧ w.cell? ⟨b, off + k, none⟩ = some (.string ⟨x.toArray⟩) := by
  obtain ⟨u, b, off, e, hu, hb, hc⟩ := Reads.plain h hk
  have hu' := hu.out
  rw [sv, List.getElem?_map, Option.map_eq_some_iff] at hu'
  obtain ⟨x, hx, rfl⟩ := hu'
  exact ⟨x, b, off, e, hx, hb, hc⟩
theorem Ss.const (w : World) (l : List (List UInt8)) (cs : Array Value) (t : TypeId) (fr : Nat × Nat) (n : Nat) (hn : l.length = n) (hcs : cs.toList = sv l) : Ss (w.alloc (.cells cs t fr)) (some ⟨w.heap.size, 0, none⟩) n l := by
  refine ⟨by simp [sv]; omega, fun _ => ⟨_, rfl, by simp, fun j u hu => ?_⟩⟩
  rw [add_lit, Nat.zero_add, cell_of_row _ w.heap.size j cs t fr (heap_alloc_new w _)]
  rw [← hcs] at hu
  simpa using hu
theorem iStrs : Info Tryz.prog 35 9 (.string ⟨#[]⟩) 1 16 := Info.mk_ Tryz.underlying35 (by kernel_rfl) rfl (by omega)
def RetOs (w : World) (l : List (List UInt8)) (e : Ending) (w' : World) : Prop := ∃ A n c, e = .returned (.slice A n c) ∧ Os w' w.heap.size A n c l ∧ Below w.heap.size w w'
theorem sv_each (l : List (List UInt8)) : ∀ u ∈ sv l, u.oneCell' = true := by
  intro u hu
  simp only [sv, List.mem_map] at hu
  obtain ⟨x, _, rfl⟩ := hu
  rfl
/-- append of one text that a block of its own holds -/
theorem wpList_appS1 {w : World} {ops : Array Oper} {rest : List Oper} {o : Oper} {a : Act} {Q : Exit → Act → World → Prop} {s x : Operand} (hgd : o.guard = none)
    (ho : o.op = .call { callee := .builtin .append, args := #[s, x], argTypes := #[35, 35] })
    {base : Nat} {A0 : Option Addr} {n c0 : Nat} {L : List (List UInt8)} (hs : a.eval s = .slice A0 n c0) (hown : Os w base A0 n c0 L)
    {A : Option Addr} {c : Nat} {t : List UInt8} (hx : a.eval x = .slice A 1 c) (hr : Ss w A 1 [t])
    (hn : n ≤ 1000000) (hbase : base ≤ w.heap.size)
    (h : ∀ A' c' w', Os w' base A' (n + 1) c' (L ++ [t]) → Below base w w' → wpList Tryz.prog ops Q rest (a.put o.dst (.slice A' (n + 1) c')) w') : wpList Tryz.prog ops Q (o :: rest) a w := by
  refine wpList_app w iStrs hgd ho hs hown hx hr (sv_each _) (by unfold maxLen; omega) (by omega) hbase fun A' c' w' h2 h3 _ => h A' c' w' ?_ ((Below.refl _ _).grown h3 hbase (fun k hk => (World.ownsRow.lt hown k hk).1))
  unfold Os
  rw [show sv (L ++ [t]) = sv L ++ sv [t] by simp [sv]]
  exact h2
end Go.Proofs.YtjjlmkleidbmhaaGreatDoor
end
