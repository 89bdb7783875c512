/-
  Queries' texts and what they lean on, part 6: only what the claims need.
-/
import Derived.Shelf.Strings.BuilderRune
import Derived.IntWalk
import Derived.Test.YtjjlmkleidbmhaaGreatDoorZ04
import Derived.Test.YtjjlmkleidbmhaaGreatDoorZ01
import Derived.Test.YtjjlmkleidbmhaaGreatDoorZ05
section
section
namespace Go.Proofs.YtjjlmkleidbmhaaGreatDoor
open Go.RowKit Go.Nst Go.Shelf
set_option maxRecDepth 100000
set_option linter.unusedVariables false

/-- a builder of the call's own holds the bytes l -/
def Bd (w : World) (B b : Nat) (l : List UInt8) : Prop := Lib.IsBuilderF 72 5 B b (Lib.byteCells l) w
/-- only the builder b, and rows of bytes, have turned -/
def Kept (b : Nat) (w w' : World) : Prop := Lib.OthersKept 5 (some b) w w'

theorem bExtra : Builder.Extra Tryz.prog Tryz.lays169_ren := Tryz.Builder_Extra_169

set_option maxHeartbeats 1000000 in
theorem copyCheck_used (b : Nat) (w : World) (h0 : w.cell? ⟨b, 0, none⟩ = some (.pointer (some ⟨b, 0, none⟩))) :
    Calls Tryz.prog 74 #[.pointer (some ⟨b, 0, none⟩)] w fun e w' => e = .returned (.tuple #[]) ∧ w' = w := by
  obtain ⟨j, hj, _⟩ := Option.map_eq_some_iff.1 bExtra.sizeBuilder
  go_enter Tryz.func74, Tryz.ntmps74
  go_wp2
  rw [Lib.run_neq_ptr_same w _ Tryz.underlying69 hj]
  go_wp2
  go_end0
  exact ⟨rfl, rfl⟩

set_option maxHeartbeats 1000000 in
theorem copyCheck_fresh (b : Nat) (w : World) (h0 : w.cell? ⟨b, 0, none⟩ = some (.pointer none)) (hsh : w.shape? b = some (72, 2)) (hfz : w.frozen? ⟨b, 0, none⟩ = false) :
    Calls Tryz.prog 74 #[.pointer (some ⟨b, 0, none⟩)] w fun e w' => e = .returned (.tuple #[]) ∧ w' = w.setCell ⟨b, 0, none⟩ (.pointer (some ⟨b, 0, none⟩)) := by
  obtain ⟨j, hj, hjs⟩ := Option.map_eq_some_iff.1 bExtra.sizeBuilder
  go_enter Tryz.func74, Tryz.ntmps74
  go_wp2
  rw [Lib.run_to_unsafe w ⟨b, 0, none⟩ Tryz.underlying69 Tryz.underlying102 hj (by rw [hjs]; decide) hsh (Nat.zero_lt_succ 1)]
  simp only [Result.andThen]
  rw [Oper.upon_value]
  go_wp2
  rw [run_callFunc_extern Tryz.func94 (by kernel_rfl) (by kernel_rfl) (by kernel_rfl) (e := Extern.AbiNoEscape.same) (by kernel_rfl)]
  rw [Lib.run_noEscape]
  simp only [Result.andThen]
  rw [Oper.upon_value]
  go_wp2
  rw [Lib.run_from_unsafe w ⟨b, 0, none⟩ Tryz.underlying102 Tryz.underlying69 hj hsh bExtra.liesBuilder]
  simp only [Result.andThen]
  rw [Oper.upon_value]
  go_wp2
  go_end0
  exact ⟨rfl, rfl⟩

theorem copyCheck_k (B b : Nat) (bs : List Value) (w : World) (h : Lib.IsBuilderF 72 5 B b bs w) :
    Calls Tryz.prog 74 #[.pointer (some ⟨b, 0, none⟩)] w fun e w' => e = .returned (.tuple #[]) ∧ (Lib.BuilderAtF 72 5 B b (.pointer (some ⟨b, 0, none⟩)) bs w' ∧ Below B w w' ∧ Lib.OthersKept 5 (some b) w w') := by
  rcases h with h | h
  · refine (copyCheck_fresh b w h.cell0 h.shape h.frozen0).mono ?_
    rintro e w' ⟨rfl, rfl⟩
    exact ⟨rfl, h.used _, (Below.refl B w).setCell (p := ⟨b, 0, none⟩) h.1 _, (Lib.OthersKept.refl _ _ w).setCell ⟨b, 0, none⟩ rfl _⟩
  · refine (copyCheck_used b w h.cell0).mono ?_
    rintro e w' ⟨rfl, rfl⟩
    exact ⟨rfl, h, Below.refl B _, Lib.OthersKept.refl _ _ _⟩

set_option maxHeartbeats 2000000 in
theorem writeByte_k (B b : Nat) (l : List UInt8) (u : UInt8) (w : World) (h : Bd w B b l) (hlen : l.length + 1 ≤ 140737488355328) (hBw : B ≤ w.heap.size) :
    Calls Tryz.prog 148 #[.pointer (some ⟨b, 0, none⟩), .int .u8 (u.toNat : Int)] w fun e w' => e = .returned .nilIface ∧ Bd w' B b (l ++ [u]) ∧ Below B w w' ∧ Kept b w w' := by
  obtain ⟨i0, hi, hz0, hz1, hz2⟩ := info_parts bExtra.infoByte
  have hne5 := bExtra.neB5
  have Hcc := Lib.hid (copyCheck_k B b (Lib.byteCells l) w h)
  rw [← Lib.byteCells_length l] at hlen
  have hfin : Lib.byteCells (l ++ [u]) = Lib.byteCells l ++ [.int .u8 (u.toNat : Int)] := Lib.byteCells_append _ _
  have HF := Lib.hid hfin
  clear hfin h
  generalize Lib.byteCells l = bs at *
  generalize (u.toNat : Int) = c at *
  go_enter Tryz.func148, Tryz.ntmps148
  go_wp2_with fail
  refine Hcc.out.mono ?_
  rintro e w1 ⟨rfl, h1, hb1, hk1⟩
  obtain ⟨hB, v, hbk, hown, hne⟩ := h1
  have c0 : w1.cell? ⟨b, 0, none⟩ = some (.pointer (some ⟨b, 0, none⟩)) := by rw [Lib.cell_of_heap hbk]; rfl
  have c1 : w1.cell? ⟨b, 1, none⟩ = some v := by rw [Lib.cell_of_heap hbk]; rfl
  go_wp2_with (at_builtin; refine wpList_append_ownF _ rfl _ _ 70 rfl B 5 i0 (.int .u8 0) 1 1 Tryz.underlying70 hi hz0 hz1 hz2 rfl (by decide) _ _ _ rfl (hown.alloc _) ⟨w1.heap.size, 0, none⟩ 1 1 [.int .u8 c] rfl rfl ?c1 ?c2 ?c3 ?c4 ?c5 ?_)
  case c1 =>
    intro j u hj
    match j, hj with
    | 0, hj => simp at hj; subst hj; simp [Addr.add]
  case c2 => intro u hu; simp at hu; subst hu; rfl
  case c3 => unfold maxLen; omega
  case c4 => omega
  case c5 => have := hb1.size; simp; omega
  intro v' w2 hown' hgrow _
  have hlt : b < w1.heap.size := by
    rcases Nat.lt_or_ge b w1.heap.size with h' | h'
    · exact h'
    · simp [Array.getElem?_eq_none h'] at hbk
  have hb2 : w2.heap[b]? = some (.cells #[.pointer (some ⟨b, 0, none⟩), v] 72 (0, 0)) := by
    rw [hgrow.block b (by simp; omega) (fun e => hne e.symm), Lib.alloc_old w1 _ b hlt]
    exact hbk
  have d0 : w2.cell? ⟨b, 0, none⟩ = some (.pointer (some ⟨b, 0, none⟩)) := by rw [Lib.cell_of_heap hb2]; rfl
  have d1 : w2.cell? ⟨b, 1, none⟩ = some v := by rw [Lib.cell_of_heap hb2]; rfl
  have f1 : w2.frozen? ⟨b, 1, none⟩ = false := Lib.frozen_of_heap hb2 1
  obtain ⟨g, cap, rfl⟩ : ∃ g cap, v' = .slice (some ⟨g, 0, none⟩) (bs.length + 1) cap := by
    rcases hown'.2 with ⟨_, h0⟩ | ⟨g, cap, cur, fz, hv, _⟩
    · omega
    · exact ⟨g, cap, hv⟩
  go_wp2_with fail
  go_ret
  refine ⟨rfl, Or.inr ?_, ?_, ((hk1.alloc _).grown hgrow (Lib.ownsRowF_kind (hown.alloc _))).setCell ⟨b, 1, none⟩ rfl _⟩
  · rw [HF.out]; exact Lib.BuilderAtF.put (T := 72) (e := 5) hB hb2 (bs' := bs ++ [.int .u8 c]) (by simpa using hown') hne5
  · exact ((hb1.alloc (by have := hb1.size; omega) _).grown hgrow (by have := hb1.size; simp; omega) (fun k hk => (hown.lt k hk).1)).setCell (p := ⟨b, 1, none⟩) hB _

set_option maxHeartbeats 2000000 in
theorem writeRune_k (B b : Nat) (l : List UInt8) (r : Int) (hr0 : -2147483648 ≤ r) (hr1 : r ≤ 2147483647) (w : World) (h : Bd w B b l) (hlen : l.length + 4 ≤ 140737488355328) (hBw : B ≤ w.heap.size) :
    Calls Tryz.prog 125 #[.pointer (some ⟨b, 0, none⟩), .int .i32 r] w fun e w' => e = .returned (.tuple #[.int .i64 (Lib.runeCells r).length, .nilIface]) ∧ Bd w' B b (l ++ Lib.encodeRune r) ∧ Below B w w' ∧ Kept b w w' := by
  have hne5 := bExtra.neB5
  have Hcc := Lib.hid (copyCheck_k B b (Lib.byteCells l) w h)
  rw [← Lib.byteCells_length l] at hlen
  have hfin : Lib.byteCells (l ++ Lib.encodeRune r) = Lib.byteCells l ++ Lib.runeCells r := by rw [Lib.byteCells_append, Lib.byteCells_encodeRune]
  have HF := Lib.hid hfin
  clear hfin h
  generalize Lib.byteCells l = bs at *
  have hk4 := Lib.runeCells_le r
  go_enter Tryz.func125, Tryz.ntmps125
  go_wp2_with fail
  refine Hcc.out.mono ?_
  rintro e w1 ⟨rfl, h1, hb1, hk1⟩
  obtain ⟨hB, v, hbk, hown, hne⟩ := h1
  obtain ⟨ao, cap, rfl⟩ : ∃ ao cap, v = .slice ao bs.length cap := by
    rcases hown.2 with ⟨hv, h0⟩ | ⟨g, cap, cur, fz, hv, _⟩
    · exact ⟨none, 0, by rw [hv, h0]⟩
    · exact ⟨_, _, hv⟩
  have c0 : w1.cell? ⟨b, 0, none⟩ = some (.pointer (some ⟨b, 0, none⟩)) := by rw [Lib.cell_of_heap hbk]; rfl
  have c1 : w1.cell? ⟨b, 1, none⟩ = some (.slice ao bs.length cap) := by rw [Lib.cell_of_heap hbk]; rfl
  go_wp2_with fail
  refine (Tryz.utf8_AppendRune_row B _ bs.length bs r hr0 hr1 _ hown (by omega) (by have := hb1.size; omega)).mono ?_
  rintro e w2 ⟨v', rfl, hown', o, hgrow⟩
  have hlt : b < w1.heap.size := by
    rcases Nat.lt_or_ge b w1.heap.size with h' | h'
    · exact h'
    · simp [Array.getElem?_eq_none h'] at hbk
  have hb2 : w2.heap[b]? = some (.cells #[.pointer (some ⟨b, 0, none⟩), .slice ao bs.length cap] 72 (0, 0)) := by
    rw [hgrow.block b (by simp; omega) (fun e => hne e.symm), Lib.alloc_old w1 _ b hlt]
    exact hbk
  have d0 : w2.cell? ⟨b, 0, none⟩ = some (.pointer (some ⟨b, 0, none⟩)) := by rw [Lib.cell_of_heap hb2]; rfl
  have d1 : w2.cell? ⟨b, 1, none⟩ = some (.slice ao bs.length cap) := by rw [Lib.cell_of_heap hb2]; rfl
  have f1 : w2.frozen? ⟨b, 1, none⟩ = false := Lib.frozen_of_heap hb2 1
  obtain ⟨g, cap', rfl⟩ : ∃ g cap', v' = .slice (some ⟨g, 0, none⟩) (bs.length + (Lib.runeCells r).length) cap' := by
    rcases hown'.2 with ⟨_, h0⟩ | ⟨g, cap', cur, fz, hv, _⟩
    · omega
    · exact ⟨g, cap', hv⟩
  go_wp2_with fail
  go_ret2
  refine ⟨?_, Or.inr ?_, ?_, ((hk1.alloc _).grown hgrow (Lib.ownsRowF_kind (hown.alloc _))).setCell ⟨b, 1, none⟩ rfl _⟩
  · have e : ((bs.length : Int) + ((Lib.runeCells r).length : Int) - (bs.length : Int)) = ((Lib.runeCells r).length : Int) := by omega
    simp [e]
  · rw [HF.out]; exact Lib.BuilderAtF.put (T := 72) (e := 5) hB hb2 (bs' := bs ++ Lib.runeCells r) (by simpa using hown') hne5
  · exact ((hb1.alloc (by have := hb1.size; omega) _).grown hgrow (by have := hb1.size; simp; omega) (fun k hk => (hown.lt k hk).1)).setCell (p := ⟨b, 1, none⟩) hB _

set_option maxHeartbeats 2000000 in
theorem writeString_k (B b : Nat) (l s : List UInt8) (w : World) (h : Bd w B b l) (hlen : l.length + s.length ≤ 140737488355328) (hBw : B ≤ w.heap.size) :
    Calls Tryz.prog 58 #[.pointer (some ⟨b, 0, none⟩), .string ⟨s.toArray⟩] w fun e w' => e = .returned (.tuple #[.int .i64 (s.length : Nat), .nilIface]) ∧ Bd w' B b (l ++ s) ∧ Below B w w' ∧ Kept b w w' := by
  obtain ⟨i0, hi, hz0, hz1, hz2⟩ := info_parts bExtra.infoByte
  have hne5 := bExtra.neB5
  have Hcc := Lib.hid (copyCheck_k B b (Lib.byteCells l) w h)
  rw [← Lib.byteCells_length l] at hlen
  have hfin : Lib.byteCells (l ++ s) = Lib.byteCells l ++ Lib.strCells ⟨s.toArray⟩ := by rw [Lib.byteCells_append]; rfl
  have HF := Lib.hid hfin
  have hsz : (ByteArray.mk s.toArray).size = s.length := by simp [ByteArray.size]
  clear hfin h
  generalize Lib.byteCells l = bs at *
  generalize ByteArray.mk s.toArray = s' at *
  rw [← hsz] at hlen ⊢
  clear hsz
  go_enter Tryz.func58, Tryz.ntmps58
  go_wp2_with fail
  refine Hcc.out.mono ?_
  rintro e w1 ⟨rfl, h1, hb1, hk1⟩
  obtain ⟨hB, v, hbk, hown, hne⟩ := h1
  have c0 : w1.cell? ⟨b, 0, none⟩ = some (.pointer (some ⟨b, 0, none⟩)) := by rw [Lib.cell_of_heap hbk]; rfl
  have c1 : w1.cell? ⟨b, 1, none⟩ = some v := by rw [Lib.cell_of_heap hbk]; rfl
  go_wp2_with (at_builtin; refine Lib.wpList_append_own_stringF _ rfl _ _ 70 9 rfl B 5 i0 Tryz.underlying70 Tryz.underlying9 hi hz0 hz1 hz2 _ _ _ rfl hown s' rfl ?c3 ?c4 ?c5 ?_)
  case c3 => unfold maxLen; omega
  case c4 => omega
  case c5 => have := hb1.size; omega
  intro v' w2 hown' hgrow _
  have hlt : b < w1.heap.size := by
    rcases Nat.lt_or_ge b w1.heap.size with h' | h'
    · exact h'
    · simp [Array.getElem?_eq_none h'] at hbk
  have hb2 : w2.heap[b]? = some (.cells #[.pointer (some ⟨b, 0, none⟩), v] 72 (0, 0)) := by
    rw [hgrow.block b hlt (fun e => hne e.symm)]
    exact hbk
  have d0 : w2.cell? ⟨b, 0, none⟩ = some (.pointer (some ⟨b, 0, none⟩)) := by rw [Lib.cell_of_heap hb2]; rfl
  have d1 : w2.cell? ⟨b, 1, none⟩ = some v := by rw [Lib.cell_of_heap hb2]; rfl
  have f1 : w2.frozen? ⟨b, 1, none⟩ = false := Lib.frozen_of_heap hb2 1
  obtain ⟨ao, n', cap, rfl⟩ : ∃ ao n' cap, v' = .slice ao n' cap := by
    rcases hown'.2 with ⟨hv, _⟩ | ⟨g, cap, cur, fz, hv, _⟩
    · exact ⟨_, _, _, hv⟩
    · exact ⟨_, _, _, hv⟩
  go_wp2_with fail
  go_ret2
  refine ⟨rfl, Or.inr ?_, ?_, (hk1.grown hgrow (Lib.ownsRowF_kind hown)).setCell ⟨b, 1, none⟩ rfl _⟩
  · rw [HF.out]; exact Lib.BuilderAtF.put (T := 72) (e := 5) hB hb2 (bs' := bs ++ Lib.strCells s') (by simpa [Lib.strCells_length] using hown') hne5
  · exact (hb1.grown hgrow (by have := hb1.size; omega) (fun k hk => (hown.lt k hk).1)).setCell (p := ⟨b, 1, none⟩) hB _

theorem bString_k (B b : Nat) (l : List UInt8) (w : World) (h : Bd w B b l) (hBw : B ≤ w.heap.size) :
    Calls Tryz.prog 59 #[.pointer (some ⟨b, 0, none⟩)] w fun e w' => e = .returned (.string ⟨l.toArray⟩) ∧ Bd w' B b l ∧ Below B w w' ∧ Kept b w w' :=
  Tryz.Builder_String_any_k B b l w h hBw
theorem bLen_k (B b : Nat) (l : List UInt8) (w : World) (h : Bd w B b l) :
    Calls Tryz.prog 146 #[.pointer (some ⟨b, 0, none⟩)] w fun e w' => e = .returned (.int .i64 (l.length : Nat)) ∧ w' = w := by
  have := Tryz.Builder_Len_f B b (Lib.byteCells l) w h
  rwa [Lib.byteCells_length] at this
/-- 'var b strings.Builder' -/
theorem Bd.fresh (w : World) : Bd (w.alloc (.cells #[.pointer none, .slice none 0 0] 72)) w.heap.size w.heap.size [] := Lib.IsBuilderF.of (Lib.fresh_isBuilder 72 5 w)
end Go.Proofs.YtjjlmkleidbmhaaGreatDoor
end
section
namespace Go.Proofs.YtjjlmkleidbmhaaGreatDoor
open Go.RowKit Go.Nst
set_option maxRecDepth 100000
set_option linter.unusedVariables false

/-- each is an int32 -/
def I32 (l : List Int) : Prop := ∀ z ∈ l, -2147483648 ≤ z ∧ z ≤ 2147483647
theorem I32.at {l : List Int} (h : I32 l) {k : Nat} {z : Int} (hz : l[k]? = some z) : -2147483648 ≤ z ∧ z ≤ 2147483647 := h z (List.mem_of_getElem? hz)
theorem putR_round {l : List Int} {k : Nat} {z : Int} (hz : l[k]? = some z) : putR (l.take (k + 1)) = putR (l.take k) ++ Lib.encodeRune z := by
  rw [List.take_add_one, hz]
  simp [putR]
theorem enc_len (z : Int) : 1 ≤ (Lib.encodeRune z).length ∧ (Lib.encodeRune z).length ≤ 4 := by
  have := Lib.runeCells_le z
  rwa [Lib.runeCells_length] at this
theorem putR_len (l : List Int) : (putR l).length ≤ 4 * l.length := by
  induction l with
  | nil => simp [putR]
  | cons z t ih =>
    have := enc_len z
    simp only [putR, List.flatMap_cons, List.length_append, List.length_cons] at ih ⊢
    omega
def RetS (w : World) (l : List UInt8) (e : Ending) (w' : World) : Prop := e = .returned (.string ⟨l.toArray⟩) ∧ Below w.heap.size w w'

theorem iBytesU : Info Tryz.prog 70 5 (.int .u8 0) 1 1 := Info.mk_ Tryz.underlying70 (by kernel_rfl) rfl (by omega)

theorem one_cells (r : Int) (cs : Array Value) (h : cs.toList = (Lib.encodeRuneZ r).map fun x => Value.int .u8 x) : cs.toList = bv (Lib.encodeRune r) := by
  rw [h]
  exact (Lib.byteCells_encodeRune r).symm

set_option maxHeartbeats 2000000 in
theorem one_any (r : Int) (w : World) (h0 : -2147483648 ≤ r) (h1 : r ≤ 2147483647) : Calls Tryz.prog 121 #[.int .i32 r] w (RetB w (Lib.encodeRune r)) := by
  have fin : ∀ cs : Array Value, cs.toList = (Lib.encodeRuneZ r).map (fun x => Value.int .u8 x) → RetB w (Lib.encodeRune r) (.returned (.slice (some ⟨w.heap.size, 0, none⟩) cs.size cs.size)) (w.alloc (.cells cs 5)) := by
    intro cs hcs
    have h2 := one_cells r cs hcs
    have h3 : (Lib.encodeRune r).length = cs.size := by rw [← bv_len, ← h2, Array.length_toList]
    have h4 := enc_len r
    have h5 := Ow.made (base := w.heap.size) w (Lib.encodeRune r) cs h2 (by unfold maxLen; omega) (Nat.le_refl _)
    rw [h3] at h5
    exact ⟨_, _, _, rfl, h5, bel_alloc (Below.refl _ _) _⟩
  by_cases hbad : r < 0 ∨ (55296 ≤ r ∧ r ≤ 57343) ∨ 1114111 < r
  · have HZ := Lib.encodeRuneZ_bad hbad
    rw [HZ] at fin
    have fin := Lib.hid (fin #[.int .u8 239, .int .u8 191, .int .u8 189] rfl)
    rcases hbad with hb | hb | hb
    all_goals
      go_enter Tryz.func121, Tryz.ntmps121
      go_wp2_with fail
      all_goals (go_ret; exact fin.out)
  by_cases c1 : r ≤ 127
  · rw [Lib.encodeRuneZ_one (by omega) c1] at fin
    have fin := Lib.hid (fin #[.int .u8 r] rfl)
    go_enter Tryz.func121, Tryz.ntmps121
    go_wp2_with fail
    all_goals (go_ret; exact fin.out)
  by_cases c2 : r ≤ 2047
  · rw [Lib.encodeRuneZ_two (by omega) c2] at fin
    have fin := Lib.hid (fin #[.int .u8 (192 + r / 64), .int .u8 (128 + r % 64)] rfl)
    go_enter Tryz.func121, Tryz.ntmps121
    go_wp2_with fail
    all_goals (go_ret; exact fin.out)
  by_cases c3 : r ≤ 65535
  · rw [Lib.encodeRuneZ_three (by omega)] at fin
    have fin := Lib.hid (fin #[.int .u8 (224 + r / 4096), .int .u8 (128 + r / 64 % 64), .int .u8 (128 + r % 64)] rfl)
    go_enter Tryz.func121, Tryz.ntmps121
    go_wp2_with fail
    all_goals (go_ret; exact fin.out)
  · rw [Lib.encodeRuneZ_four (by omega) (by omega)] at fin
    have fin := Lib.hid (fin #[.int .u8 (240 + r / 262144), .int .u8 (128 + r / 4096 % 64), .int .u8 (128 + r / 64 % 64), .int .u8 (128 + r % 64)] rfl)
    go_enter Tryz.func121, Tryz.ntmps121
    go_wp2_with fail
    all_goals (go_ret; exact fin.out)

set_option maxHeartbeats 2000000 in
theorem refPut5_any (A : Option Addr) (n c : Nat) (l : List Int) (w : World) (hR : Rn w A n l) (hI : I32 l) (hn : n ≤ 10000000) : Calls Tryz.prog 100 #[.slice A n c] w (RetS w (putR l)) := by
  have hl := hR.len
  have hfull : putR (l.take n) = putR l := by rw [List.take_of_length_le (by omega)]
  have HF := Lib.hid hfull
  clear hfull
  go_enter Tryz.func100, Tryz.ntmps100
  go_wp2_with fail
  go_loopw [3, 4] (fun v i wr => ∃ (k m : Nat) (A2 : Option Addr) (c2 : Nat), v = .slice A2 m c2 ∧ i = .int .i64 (k : Int) ∧ k ≤ n ∧ Ow wr w.heap.size A2 m c2 (putR (l.take k)) ∧ Below w.heap.size w wr) (fun _ i _ => n - (intOf i).toNat)
  case atStart => exact ⟨0, 0, none, 0, rfl, rfl, by omega, Ow.nil, Below.refl _ _⟩
  case round =>
    obtain ⟨k, m, A2, c2, rfl, rfl, hk, hO, hbw⟩ := hrel
    have hbs := hbw.size
    by_cases hlt : k < n
    · obtain ⟨z, b, off, rfl, hz, hb, hc⟩ := hR.at hlt
      have hcw : wr.cell? ⟨b, off + k, none⟩ = some (.int .i32 z) := (hbw.cell (p := ⟨b, off + k, none⟩) hb).trans hc
      have hzb := hI.at hz.out
      have hpl := putR_len (l.take k)
      have hkl : (l.take k).length ≤ k := by simp; omega
      have hml := hO.len
      have HP := Lib.hid (putR_round hz.out)
      have HC := Lib.hid (one_any z wr hzb.1 hzb.2)
      have hel := enc_len z
      generalize putR (l.take k) = acc at *
      generalize Lib.encodeRune z = ez at *
      go_wp2_with fail
      refine HC.out.mono ?_
      rintro e w1 ⟨A3, n3, c3, rfl, ho3, hb1⟩
      have hO1 := hO.below hb1
      have hlen3 := ho3.len
      have hs1 := hb1.size
      go_wp2_with (at_builtin; refine wpList_appBg _ iBytesU rfl rfl rfl hO1 rfl ho3.bs (m + n3) (putR (l.take (k + 1))) rfl HP.out.symm (by omega) (by omega) ?_; intro A' c' w' ho hb2 _ _)
      go_roundw
      case rel => exact ⟨k + 1, m + n3, A', c', rfl, by go_num, by omega, ho, (bel_step hbw hb1).trans hb2⟩
      case measure => simp [intOf]; omega
    · obtain rfl : k = n := by omega
      rw [HF.out] at hO
      have hcv := hO.bs.str (P := Tryz.prog) 70 9 5 c2 Tryz.underlying70 Tryz.underlying5 Tryz.underlying9
      generalize putR l = pl at *
      go_wp2_with fail
      go_ret
      exact ⟨rfl, hbw⟩
end Go.Proofs.YtjjlmkleidbmhaaGreatDoor
end
section
namespace Go.Proofs.YtjjlmkleidbmhaaGreatDoor
open Go.RowKit Go.Nst
set_option maxRecDepth 100000
set_option linter.unusedVariables false
set_option linter.unusedSimpArgs false

theorem blank_cases {c : Int} (h : blankB c = true) : c = 9 ∨ c = 10 ∨ c = 13 ∨ c = 32 ∨ c = 160 ∨ c = 8232 ∨ c = 8233 ∨ c = 12288 := by
  simp [blankB] at h
  omega
theorem blank_not {c : Int} (h : blankB c = false) : ((c == 9) = false ∧ (c == 10) = false ∧ (c == 13) = false ∧ (c == 32) = false) ∧ (c == 160) = false ∧ (c == 8232) = false ∧ (c == 8233) = false ∧ (c == 12288) = false := by
  simp [blankB] at h
  simp
  omega
set_option maxHeartbeats 1000000 in
theorem blank_yes (c : Int) (w : World) (h : blankB c = true) : Calls Tryz.prog 145 #[.int .i32 c] w fun e w' => e = .returned (.bool true) ∧ w = w' := by
  rcases blank_cases h with rfl | rfl | rfl | rfl | rfl | rfl | rfl | rfl
  all_goals
    clear h
    go_enter Tryz.func145, Tryz.ntmps145
    go_wp2_with fail
    go_ret
    exact ⟨rfl, rfl⟩
theorem blank_no (c : Int) (w : World) (h : blankB c = false) : Calls Tryz.prog 145 #[.int .i32 c] w fun e w' => e = .returned (.bool false) ∧ w = w' := by
  obtain ⟨⟨h1, h2, h3, h4⟩, h5, h6, h7, h8⟩ := blank_not h
  clear h
  go_enter Tryz.func145, Tryz.ntmps145
  go_wp2_with fail
  go_ret
  exact ⟨rfl, rfl⟩
set_option maxHeartbeats 1000000 in
theorem refBlank_yes (c : Int) (w : World) (h : blankB c = true) : Calls Tryz.prog 137 #[.int .i32 c] w fun e w' => e = .returned (.bool true) ∧ w = w' := by
  rcases blank_cases h with rfl | rfl | rfl | rfl | rfl | rfl | rfl | rfl
  all_goals
    clear h
    go_enter Tryz.func137, Tryz.ntmps137
    go_wp2_with fail
    go_ret
    exact ⟨rfl, rfl⟩
theorem refBlank_no (c : Int) (w : World) (h : blankB c = false) : Calls Tryz.prog 137 #[.int .i32 c] w fun e w' => e = .returned (.bool false) ∧ w = w' := by
  obtain ⟨⟨h1, h2, h3, h4⟩, h5, h6, h7, h8⟩ := blank_not h
  clear h
  go_enter Tryz.func137, Tryz.ntmps137
  go_wp2_with fail
  go_ret
  exact ⟨rfl, rfl⟩
theorem ctrl_split {c : Int} : (c < 32 ∧ ctrlB c = true) ∨ (decide (c < 32) = false ∧ decide (127 ≤ c) = false ∧ ctrlB c = false) ∨ (decide (c < 32) = false ∧ decide (127 ≤ c) = true ∧ decide (c ≤ 159) = true ∧ ctrlB c = true) ∨ (decide (c < 32) = false ∧ decide (127 ≤ c) = true ∧ decide (c ≤ 159) = false ∧ ctrlB c = false) := by
  simp [ctrlB]
  omega
theorem control_any (c : Int) (w : World) : Calls Tryz.prog 147 #[.int .i32 c] w fun e w' => e = .returned (.bool (ctrlB c)) ∧ w = w' := by
  rcases ctrl_split (c := c) with ⟨h1, h2⟩ | ⟨h1, h3, h2⟩ | ⟨h1, h3, h4, h2⟩ | ⟨h1, h3, h4, h2⟩
  all_goals
    rw [h2]
    clear h2
    go_enter Tryz.func147, Tryz.ntmps147
    go_wp2_with fail
    go_ret
    exact ⟨rfl, rfl⟩

def betB (c a b : Int) : Bool := decide (a ≤ c) && decide (c ≤ b)
theorem betB_yes {c a b : Int} (h : a ≤ c ∧ c ≤ b) : betB c a b = true := by simp [betB]; exact h
theorem betB_no {c a b : Int} (h : c < a ∨ b < c) : betB c a b = false := by
  rw [Bool.eq_false_iff]
  simp [betB]
  omega
theorem between_any (c a b : Int) (w : World) : Calls Tryz.prog 143 #[.int .i32 c, .int .i32 a, .int .i32 b] w fun e w' => e = .returned (.bool (betB c a b)) ∧ w = w' := by
  by_cases h1 : a ≤ c
  · by_cases h2 : c ≤ b
    · rw [betB_yes ⟨h1, h2⟩]
      go_enter Tryz.func143, Tryz.ntmps143
      go_wp2_with fail
      go_ret
      simp [h2]
    · rw [betB_no (by omega)]
      go_enter Tryz.func143, Tryz.ntmps143
      go_wp2_with fail
      go_ret
      simp [h2]
  · rw [betB_no (by omega)]
    go_enter Tryz.func143, Tryz.ntmps143
    go_wp2_with fail
    go_ret
    simp

theorem foldC_32 {c : Int} (h : (65 ≤ c ∧ c ≤ 90) ∨ (192 ≤ c ∧ c ≤ 222 ∧ c ≠ 215) ∨ (913 ≤ c ∧ c ≤ 937 ∧ c ≠ 930) ∨ (1040 ≤ c ∧ c ≤ 1071)) : foldC c = c + 32 := by unfold foldC; rw [if_pos h]
theorem foldC_80 {c : Int} (h : 1024 ≤ c ∧ c ≤ 1039) : foldC c = c + 80 := by unfold foldC; rw [if_neg (by omega), if_pos h]
theorem foldC_0 {c : Int} (h : ¬ ((65 ≤ c ∧ c ≤ 90) ∨ (192 ≤ c ∧ c ≤ 222 ∧ c ≠ 215) ∨ (913 ≤ c ∧ c ≤ 937 ∧ c ≠ 930) ∨ (1040 ≤ c ∧ c ≤ 1071))) (h2 : ¬ (1024 ≤ c ∧ c ≤ 1039)) : foldC c = c := by unfold foldC; rw [if_neg h, if_neg h2]
/-- where a rune lies -/
theorem fold_split (c : Int) : c = 215 ∨ c = 930 ∨ ((c == 215) = false ∧ (c == 930) = false ∧ ((betB c 65 90 = true ∧ foldC c = c + 32) ∨ (betB c 65 90 = false ∧ betB c 192 222 = true ∧ foldC c = c + 32) ∨ (betB c 65 90 = false ∧ betB c 192 222 = false ∧ betB c 913 937 = true ∧ foldC c = c + 32) ∨ (betB c 65 90 = false ∧ betB c 192 222 = false ∧ betB c 913 937 = false ∧ betB c 1040 1071 = true ∧ foldC c = c + 32) ∨ (betB c 65 90 = false ∧ betB c 192 222 = false ∧ betB c 913 937 = false ∧ betB c 1040 1071 = false ∧ betB c 1024 1039 = true ∧ foldC c = c + 80) ∨ (betB c 65 90 = false ∧ betB c 192 222 = false ∧ betB c 913 937 = false ∧ betB c 1040 1071 = false ∧ betB c 1024 1039 = false ∧ foldC c = c))) := by
  by_cases a1 : c = 215
  · exact .inl a1
  by_cases a2 : c = 930
  · exact .inr (.inl a2)
  refine .inr (.inr ⟨by simp; exact a1, by simp; exact a2, ?_⟩)
  by_cases b1 : 65 ≤ c ∧ c ≤ 90
  · exact .inl ⟨betB_yes b1, foldC_32 (by omega)⟩
  by_cases b2 : 192 ≤ c ∧ c ≤ 222
  · exact .inr (.inl ⟨betB_no (by omega), betB_yes b2, foldC_32 (by omega)⟩)
  by_cases b3 : 913 ≤ c ∧ c ≤ 937
  · exact .inr (.inr (.inl ⟨betB_no (by omega), betB_no (by omega), betB_yes b3, foldC_32 (by omega)⟩))
  by_cases b4 : 1040 ≤ c ∧ c ≤ 1071
  · exact .inr (.inr (.inr (.inl ⟨betB_no (by omega), betB_no (by omega), betB_no (by omega), betB_yes b4, foldC_32 (by omega)⟩)))
  by_cases b5 : 1024 ≤ c ∧ c ≤ 1039
  · exact .inr (.inr (.inr (.inr (.inl ⟨betB_no (by omega), betB_no (by omega), betB_no (by omega), betB_no (by omega), betB_yes b5, foldC_80 b5⟩))))
  · exact .inr (.inr (.inr (.inr (.inr ⟨betB_no (by omega), betB_no (by omega), betB_no (by omega), betB_no (by omega), betB_no (by omega), foldC_0 (by omega) b5⟩))))

set_option maxHeartbeats 2000000 in
theorem fold5_any (c : Int) (w : World) (h0 : 0 ≤ c) (h1 : c ≤ 1114111) : Calls Tryz.prog 126 #[.int .i32 c] w fun e w' => e = .returned (.int .i32 (foldC c)) ∧ w = w' := by
  rcases fold_split c with rfl | rfl | ⟨d1, d2, ⟨e1, e9⟩ | ⟨e1, e2, e9⟩ | ⟨e1, e2, e3, e9⟩ | ⟨e1, e2, e3, e4, e9⟩ | ⟨e1, e2, e3, e4, e5, e9⟩ | ⟨e1, e2, e3, e4, e5, e9⟩⟩
  · go_enter Tryz.func126, Tryz.ntmps126
    go_wp2_with fail
    go_ret
    exact ⟨rfl, rfl⟩
  · go_enter Tryz.func126, Tryz.ntmps126
    go_wp2_with fail
    go_ret
    exact ⟨rfl, rfl⟩
  all_goals
    rw [e9]
    clear e9
    go_enter Tryz.func126, Tryz.ntmps126
    go_wp2_with ((with_reducible refine (between_any _ _ _ _).mono ?_); rintro e w' ⟨rfl, rfl⟩)
    go_ret
    exact ⟨rfl, rfl⟩
set_option maxHeartbeats 4000000 in
theorem refold_any (c : Int) (w : World) (h0 : 0 ≤ c) (h1 : c ≤ 1114111) : Calls Tryz.prog 113 #[.int .i32 c] w fun e w' => e = .returned (.int .i32 (foldC c)) ∧ w = w' := by
  by_cases r0 : c ≤ 64
  · rw [foldC_0 (by omega) (by omega)]
    have g65 : decide ((65 : Int) ≤ c) = false := by simp; omega
    have g90 : decide (c ≤ (90 : Int)) = true := by simp; omega
    have g192 : decide ((192 : Int) ≤ c) = false := by simp; omega
    have g222 : decide (c ≤ (222 : Int)) = true := by simp; omega
    have g215 : (c != 215) = true := by simp; omega
    have g913 : decide ((913 : Int) ≤ c) = false := by simp; omega
    have g937 : decide (c ≤ (937 : Int)) = true := by simp; omega
    have g930 : (c != 930) = true := by simp; omega
    have g1040 : decide ((1040 : Int) ≤ c) = false := by simp; omega
    have g1071 : decide (c ≤ (1071 : Int)) = true := by simp; omega
    have g1024 : decide ((1024 : Int) ≤ c) = false := by simp; omega
    have g1039 : decide (c ≤ (1039 : Int)) = true := by simp; omega
    clear r0
    go_enter Tryz.func113, Tryz.ntmps113
    go_wp2_with fail
    go_ret
    exact ⟨rfl, rfl⟩
  by_cases r1 : c ≤ 90
  · rw [foldC_32 (by omega)]
    have g65 : decide ((65 : Int) ≤ c) = true := by simp; omega
    have g90 : decide (c ≤ (90 : Int)) = true := by simp; omega
    have g192 : decide ((192 : Int) ≤ c) = false := by simp; omega
    have g222 : decide (c ≤ (222 : Int)) = true := by simp; omega
    have g215 : (c != 215) = true := by simp; omega
    have g913 : decide ((913 : Int) ≤ c) = false := by simp; omega
    have g937 : decide (c ≤ (937 : Int)) = true := by simp; omega
    have g930 : (c != 930) = true := by simp; omega
    have g1040 : decide ((1040 : Int) ≤ c) = false := by simp; omega
    have g1071 : decide (c ≤ (1071 : Int)) = true := by simp; omega
    have g1024 : decide ((1024 : Int) ≤ c) = false := by simp; omega
    have g1039 : decide (c ≤ (1039 : Int)) = true := by simp; omega
    clear r0 r1
    go_enter Tryz.func113, Tryz.ntmps113
    go_wp2_with fail
    go_ret
    exact ⟨rfl, rfl⟩
  by_cases r2 : c ≤ 191
  · rw [foldC_0 (by omega) (by omega)]
    have g65 : decide ((65 : Int) ≤ c) = true := by simp; omega
    have g90 : decide (c ≤ (90 : Int)) = false := by simp; omega
    have g192 : decide ((192 : Int) ≤ c) = false := by simp; omega
    have g222 : decide (c ≤ (222 : Int)) = true := by simp; omega
    have g215 : (c != 215) = true := by simp; omega
    have g913 : decide ((913 : Int) ≤ c) = false := by simp; omega
    have g937 : decide (c ≤ (937 : Int)) = true := by simp; omega
    have g930 : (c != 930) = true := by simp; omega
    have g1040 : decide ((1040 : Int) ≤ c) = false := by simp; omega
    have g1071 : decide (c ≤ (1071 : Int)) = true := by simp; omega
    have g1024 : decide ((1024 : Int) ≤ c) = false := by simp; omega
    have g1039 : decide (c ≤ (1039 : Int)) = true := by simp; omega
    clear r0 r1 r2
    go_enter Tryz.func113, Tryz.ntmps113
    go_wp2_with fail
    go_ret
    exact ⟨rfl, rfl⟩
  by_cases r3 : c ≤ 214
  · rw [foldC_32 (by omega)]
    have g65 : decide ((65 : Int) ≤ c) = true := by simp; omega
    have g90 : decide (c ≤ (90 : Int)) = false := by simp; omega
    have g192 : decide ((192 : Int) ≤ c) = true := by simp; omega
    have g222 : decide (c ≤ (222 : Int)) = true := by simp; omega
    have g215 : (c != 215) = true := by simp; omega
    have g913 : decide ((913 : Int) ≤ c) = false := by simp; omega
    have g937 : decide (c ≤ (937 : Int)) = true := by simp; omega
    have g930 : (c != 930) = true := by simp; omega
    have g1040 : decide ((1040 : Int) ≤ c) = false := by simp; omega
    have g1071 : decide (c ≤ (1071 : Int)) = true := by simp; omega
    have g1024 : decide ((1024 : Int) ≤ c) = false := by simp; omega
    have g1039 : decide (c ≤ (1039 : Int)) = true := by simp; omega
    clear r0 r1 r2 r3
    go_enter Tryz.func113, Tryz.ntmps113
    go_wp2_with fail
    go_ret
    exact ⟨rfl, rfl⟩
  by_cases r4 : c ≤ 215
  · rw [foldC_0 (by omega) (by omega)]
    have g65 : decide ((65 : Int) ≤ c) = true := by simp; omega
    have g90 : decide (c ≤ (90 : Int)) = false := by simp; omega
    have g192 : decide ((192 : Int) ≤ c) = true := by simp; omega
    have g222 : decide (c ≤ (222 : Int)) = true := by simp; omega
    have g215 : (c != 215) = false := by simp; omega
    have g913 : decide ((913 : Int) ≤ c) = false := by simp; omega
    have g937 : decide (c ≤ (937 : Int)) = true := by simp; omega
    have g930 : (c != 930) = true := by simp; omega
    have g1040 : decide ((1040 : Int) ≤ c) = false := by simp; omega
    have g1071 : decide (c ≤ (1071 : Int)) = true := by simp; omega
    have g1024 : decide ((1024 : Int) ≤ c) = false := by simp; omega
    have g1039 : decide (c ≤ (1039 : Int)) = true := by simp; omega
    clear r0 r1 r2 r3 r4
    go_enter Tryz.func113, Tryz.ntmps113
    go_wp2_with fail
    go_ret
    exact ⟨rfl, rfl⟩
  by_cases r5 : c ≤ 222
  · rw [foldC_32 (by omega)]
    have g65 : decide ((65 : Int) ≤ c) = true := by simp; omega
    have g90 : decide (c ≤ (90 : Int)) = false := by simp; omega
    have g192 : decide ((192 : Int) ≤ c) = true := by simp; omega
    have g222 : decide (c ≤ (222 : Int)) = true := by simp; omega
    have g215 : (c != 215) = true := by simp; omega
    have g913 : decide ((913 : Int) ≤ c) = false := by simp; omega
    have g937 : decide (c ≤ (937 : Int)) = true := by simp; omega
    have g930 : (c != 930) = true := by simp; omega
    have g1040 : decide ((1040 : Int) ≤ c) = false := by simp; omega
    have g1071 : decide (c ≤ (1071 : Int)) = true := by simp; omega
    have g1024 : decide ((1024 : Int) ≤ c) = false := by simp; omega
    have g1039 : decide (c ≤ (1039 : Int)) = true := by simp; omega
    clear r0 r1 r2 r3 r4 r5
    go_enter Tryz.func113, Tryz.ntmps113
    go_wp2_with fail
    go_ret
    exact ⟨rfl, rfl⟩
  by_cases r6 : c ≤ 912
  · rw [foldC_0 (by omega) (by omega)]
    have g65 : decide ((65 : Int) ≤ c) = true := by simp; omega
    have g90 : decide (c ≤ (90 : Int)) = false := by simp; omega
    have g192 : decide ((192 : Int) ≤ c) = true := by simp; omega
    have g222 : decide (c ≤ (222 : Int)) = false := by simp; omega
    have g215 : (c != 215) = true := by simp; omega
    have g913 : decide ((913 : Int) ≤ c) = false := by simp; omega
    have g937 : decide (c ≤ (937 : Int)) = true := by simp; omega
    have g930 : (c != 930) = true := by simp; omega
    have g1040 : decide ((1040 : Int) ≤ c) = false := by simp; omega
    have g1071 : decide (c ≤ (1071 : Int)) = true := by simp; omega
    have g1024 : decide ((1024 : Int) ≤ c) = false := by simp; omega
    have g1039 : decide (c ≤ (1039 : Int)) = true := by simp; omega
    clear r0 r1 r2 r3 r4 r5 r6
    go_enter Tryz.func113, Tryz.ntmps113
    go_wp2_with fail
    go_ret
    exact ⟨rfl, rfl⟩
  by_cases r7 : c ≤ 929
  · rw [foldC_32 (by omega)]
    have g65 : decide ((65 : Int) ≤ c) = true := by simp; omega
    have g90 : decide (c ≤ (90 : Int)) = false := by simp; omega
    have g192 : decide ((192 : Int) ≤ c) = true := by simp; omega
    have g222 : decide (c ≤ (222 : Int)) = false := by simp; omega
    have g215 : (c != 215) = true := by simp; omega
    have g913 : decide ((913 : Int) ≤ c) = true := by simp; omega
    have g937 : decide (c ≤ (937 : Int)) = true := by simp; omega
    have g930 : (c != 930) = true := by simp; omega
    have g1040 : decide ((1040 : Int) ≤ c) = false := by simp; omega
    have g1071 : decide (c ≤ (1071 : Int)) = true := by simp; omega
    have g1024 : decide ((1024 : Int) ≤ c) = false := by simp; omega
    have g1039 : decide (c ≤ (1039 : Int)) = true := by simp; omega
    clear r0 r1 r2 r3 r4 r5 r6 r7
    go_enter Tryz.func113, Tryz.ntmps113
    go_wp2_with fail
    go_ret
    exact ⟨rfl, rfl⟩
  by_cases r8 : c ≤ 930
  · rw [foldC_0 (by omega) (by omega)]
    have g65 : decide ((65 : Int) ≤ c) = true := by simp; omega
    have g90 : decide (c ≤ (90 : Int)) = false := by simp; omega
    have g192 : decide ((192 : Int) ≤ c) = true := by simp; omega
    have g222 : decide (c ≤ (222 : Int)) = false := by simp; omega
    have g215 : (c != 215) = true := by simp; omega
    have g913 : decide ((913 : Int) ≤ c) = true := by simp; omega
    have g937 : decide (c ≤ (937 : Int)) = true := by simp; omega
    have g930 : (c != 930) = false := by simp; omega
    have g1040 : decide ((1040 : Int) ≤ c) = false := by simp; omega
    have g1071 : decide (c ≤ (1071 : Int)) = true := by simp; omega
    have g1024 : decide ((1024 : Int) ≤ c) = false := by simp; omega
    have g1039 : decide (c ≤ (1039 : Int)) = true := by simp; omega
    clear r0 r1 r2 r3 r4 r5 r6 r7 r8
    go_enter Tryz.func113, Tryz.ntmps113
    go_wp2_with fail
    go_ret
    exact ⟨rfl, rfl⟩
  by_cases r9 : c ≤ 937
  · rw [foldC_32 (by omega)]
    have g65 : decide ((65 : Int) ≤ c) = true := by simp; omega
    have g90 : decide (c ≤ (90 : Int)) = false := by simp; omega
    have g192 : decide ((192 : Int) ≤ c) = true := by simp; omega
    have g222 : decide (c ≤ (222 : Int)) = false := by simp; omega
    have g215 : (c != 215) = true := by simp; omega
    have g913 : decide ((913 : Int) ≤ c) = true := by simp; omega
    have g937 : decide (c ≤ (937 : Int)) = true := by simp; omega
    have g930 : (c != 930) = true := by simp; omega
    have g1040 : decide ((1040 : Int) ≤ c) = false := by simp; omega
    have g1071 : decide (c ≤ (1071 : Int)) = true := by simp; omega
    have g1024 : decide ((1024 : Int) ≤ c) = false := by simp; omega
    have g1039 : decide (c ≤ (1039 : Int)) = true := by simp; omega
    clear r0 r1 r2 r3 r4 r5 r6 r7 r8 r9
    go_enter Tryz.func113, Tryz.ntmps113
    go_wp2_with fail
    go_ret
    exact ⟨rfl, rfl⟩
  by_cases r10 : c ≤ 1023
  · rw [foldC_0 (by omega) (by omega)]
    have g65 : decide ((65 : Int) ≤ c) = true := by simp; omega
    have g90 : decide (c ≤ (90 : Int)) = false := by simp; omega
    have g192 : decide ((192 : Int) ≤ c) = true := by simp; omega
    have g222 : decide (c ≤ (222 : Int)) = false := by simp; omega
    have g215 : (c != 215) = true := by simp; omega
    have g913 : decide ((913 : Int) ≤ c) = true := by simp; omega
    have g937 : decide (c ≤ (937 : Int)) = false := by simp; omega
    have g930 : (c != 930) = true := by simp; omega
    have g1040 : decide ((1040 : Int) ≤ c) = false := by simp; omega
    have g1071 : decide (c ≤ (1071 : Int)) = true := by simp; omega
    have g1024 : decide ((1024 : Int) ≤ c) = false := by simp; omega
    have g1039 : decide (c ≤ (1039 : Int)) = true := by simp; omega
    clear r0 r1 r2 r3 r4 r5 r6 r7 r8 r9 r10
    go_enter Tryz.func113, Tryz.ntmps113
    go_wp2_with fail
    go_ret
    exact ⟨rfl, rfl⟩
  by_cases r11 : c ≤ 1039
  · rw [foldC_80 (by omega)]
    have g65 : decide ((65 : Int) ≤ c) = true := by simp; omega
    have g90 : decide (c ≤ (90 : Int)) = false := by simp; omega
    have g192 : decide ((192 : Int) ≤ c) = true := by simp; omega
    have g222 : decide (c ≤ (222 : Int)) = false := by simp; omega
    have g215 : (c != 215) = true := by simp; omega
    have g913 : decide ((913 : Int) ≤ c) = true := by simp; omega
    have g937 : decide (c ≤ (937 : Int)) = false := by simp; omega
    have g930 : (c != 930) = true := by simp; omega
    have g1040 : decide ((1040 : Int) ≤ c) = false := by simp; omega
    have g1071 : decide (c ≤ (1071 : Int)) = true := by simp; omega
    have g1024 : decide ((1024 : Int) ≤ c) = true := by simp; omega
    have g1039 : decide (c ≤ (1039 : Int)) = true := by simp; omega
    clear r0 r1 r2 r3 r4 r5 r6 r7 r8 r9 r10 r11
    go_enter Tryz.func113, Tryz.ntmps113
    go_wp2_with fail
    go_ret
    exact ⟨rfl, rfl⟩
  by_cases r12 : c ≤ 1071
  · rw [foldC_32 (by omega)]
    have g65 : decide ((65 : Int) ≤ c) = true := by simp; omega
    have g90 : decide (c ≤ (90 : Int)) = false := by simp; omega
    have g192 : decide ((192 : Int) ≤ c) = true := by simp; omega
    have g222 : decide (c ≤ (222 : Int)) = false := by simp; omega
    have g215 : (c != 215) = true := by simp; omega
    have g913 : decide ((913 : Int) ≤ c) = true := by simp; omega
    have g937 : decide (c ≤ (937 : Int)) = false := by simp; omega
    have g930 : (c != 930) = true := by simp; omega
    have g1040 : decide ((1040 : Int) ≤ c) = true := by simp; omega
    have g1071 : decide (c ≤ (1071 : Int)) = true := by simp; omega
    have g1024 : decide ((1024 : Int) ≤ c) = true := by simp; omega
    have g1039 : decide (c ≤ (1039 : Int)) = false := by simp; omega
    clear r0 r1 r2 r3 r4 r5 r6 r7 r8 r9 r10 r11 r12
    go_enter Tryz.func113, Tryz.ntmps113
    go_wp2_with fail
    go_ret
    exact ⟨rfl, rfl⟩
  · rw [foldC_0 (by omega) (by omega)]
    have g65 : decide ((65 : Int) ≤ c) = true := by simp; omega
    have g90 : decide (c ≤ (90 : Int)) = false := by simp; omega
    have g192 : decide ((192 : Int) ≤ c) = true := by simp; omega
    have g222 : decide (c ≤ (222 : Int)) = false := by simp; omega
    have g215 : (c != 215) = true := by simp; omega
    have g913 : decide ((913 : Int) ≤ c) = true := by simp; omega
    have g937 : decide (c ≤ (937 : Int)) = false := by simp; omega
    have g930 : (c != 930) = true := by simp; omega
    have g1040 : decide ((1040 : Int) ≤ c) = true := by simp; omega
    have g1071 : decide (c ≤ (1071 : Int)) = false := by simp; omega
    have g1024 : decide ((1024 : Int) ≤ c) = true := by simp; omega
    have g1039 : decide (c ≤ (1039 : Int)) = false := by simp; omega
    clear r0 r1 r2 r3 r4 r5 r6 r7 r8 r9 r10 r11 r12
    go_enter Tryz.func113, Tryz.ntmps113
    go_wp2_with fail
    go_ret
    exact ⟨rfl, rfl⟩
end Go.Proofs.YtjjlmkleidbmhaaGreatDoor
end
section
namespace Go.Proofs.YtjjlmkleidbmhaaGreatDoor
open Go.RowKit Go.Nst
set_option maxRecDepth 100000
set_option linter.unusedVariables false
set_option linter.unusedSimpArgs false

theorem putR_nil_iff (l : List Int) : 0 < (putR l).length ↔ 0 < l.length := by
  cases l with
  | nil => simp [putR]
  | cons z t =>
    have := enc_len z
    simp only [putR, List.flatMap_cons, List.length_append, List.length_cons]
    omega
theorem putR_snoc (l : List Int) (z : Int) : putR (l ++ [z]) = putR l ++ Lib.encodeRune z := by simp [putR]
theorem enc_32 : Lib.encodeRune 32 = [32] := by decide
/-- the clean text of a text -/
def cleanT (l : List UInt8) : List UInt8 := putR (cleanR (runesI l))
def cleanG (st : List Int × Bool) (l : List Int) : List Int := (l.foldl cleanS st).1
theorem cleanG_cons (st : List Int × Bool) (c : Int) (l : List Int) : cleanG st (c :: l) = cleanG (cleanS st c) l := rfl
theorem clean_round {l : List UInt8} {pos : Nat} {st : List Int × Bool} {fin : List Int} (h : fin = cleanG st (runesI (l.drop pos))) (hp : pos < l.length) : fin = cleanG (cleanS st ((firstL (l.drop pos)).1 : Int)) (runesI (l.drop (pos + (firstL (l.drop pos)).2))) := by
  rw [h, runesI_step (drop_ne hp), List.drop_drop, cleanG_cons]
theorem clean_end {l : List UInt8} {pos : Nat} {st : List Int × Bool} {fin : List Int} (h : fin = cleanG st (runesI (l.drop pos))) (hp : ¬ pos < l.length) : fin = st.1 := by
  rw [h, List.drop_of_length_le (by omega)]
  rfl

set_option maxHeartbeats 4000000 in
theorem clean_any (s : ByteArray) (w : World) (hS : s.size ≤ 10000000) : Calls Tryz.prog 128 #[.string s] w (RetS w (cleanT (bl s))) := by
  have hbl := bl_len s
  have HF : ∃ fin, cleanR (runesI (bl s)) = fin := ⟨_, rfl⟩
  obtain ⟨fin, hfin⟩ := HF
  have HT : Hid (fin = cleanG ([], false) (runesI ((bl s).drop 0))) := Lib.hid hfin.symm
  unfold cleanT
  rw [hfin]
  clear hfin
  go_enter Tryz.func128, Tryz.ntmps128
  go_wp2_with fail
  go_loopw [4] (fun v wr => ∃ (pos : Nat) (out : List Int) (wait : Bool), v = .bool wait ∧ pos ≤ s.size ∧ out.length ≤ 2 * pos ∧ Bd wr w.heap.size w.heap.size (putR out) ∧ wr.heap[w.heap.size + 1]? = some (.stringIter s pos) ∧ Below w.heap.size w wr ∧ Hid (fin = cleanG (out, wait) (runesI ((bl s).drop pos)))) (fun _ wr => s.size - wr.iterPos (w.heap.size + 1))
  case atStart =>
    refine ⟨0, [], false, rfl, by omega, by simp, (Bd.fresh w).alloc _, ?_, bel_alloc (bel_alloc (Below.refl _ _) _) _, HT⟩
    have := World.iter_heap (w.alloc (.cells #[.pointer none, .slice none 0 0] 72)) s 0
    simpa using this
  case round =>
    obtain ⟨pos, out, wait, rfl, hps, hol, hbd, hit, hbw, HR⟩ := hrel
    have hsz : w.heap.size + 1 < wr.heap.size := (Array.getElem?_eq_some_iff.1 hit).1
    by_cases hp : pos < s.size
    · have hnx : ∀ ty, (Instr.next (.pointer (some ⟨w.heap.size + 1, 0, none⟩)) true ty).run Tryz.prog wr = _ := fun ty => Lib.run_next_any_at wr (w.heap.size + 1) s pos ty hit hp
      have hw1 := firstL_width ((bl s).drop pos) (drop_ne (by omega))
      have hr1 := (firstL_rune ((bl s).drop pos)).1
      have HN := Lib.hid (clean_round HR.out (by omega))
      have hle : pos + (firstL ((bl s).drop pos)).2 ≤ s.size := by have := hw1.2.2; rw [List.length_drop, hbl] at this; omega
      rw [decode_bl s pos hp] at hnx
      generalize firstL ((bl s).drop pos) = f at *
      have hit2 := Lib.iterAt_heap wr (w.heap.size + 1) s pos (pos + f.2) hit
      have hbw2 := Lib.below_iterAt hbw (k := w.heap.size + 1) (by omega) s (pos + f.2)
      have hbd2 : Bd (wr.iterAt (w.heap.size + 1) s (pos + f.2)) w.heap.size w.heap.size (putR out) := Lib.IsBuilderF.iterAt hbd hit (pos + f.2)
      have hsz2 : w.heap.size + 1 < (wr.iterAt (w.heap.size + 1) s (pos + f.2)).heap.size := by rw [Lib.iterAt_size]; omega
      have hpl := putR_len out
      have HPI := Lib.hid (putR_nil_iff out)
      unfold cleanS at HN
      by_cases b1 : blankB (f.1 : Int) = true
      · have HC := Lib.hid (blank_yes (f.1 : Int) (wr.iterAt (w.heap.size + 1) s (pos + f.2)) b1)
        have HL := Lib.hid (bLen_k w.heap.size w.heap.size (putR out) (wr.iterAt (w.heap.size + 1) s (pos + f.2)) hbd2)
        rw [if_pos b1] at HN
        have hwt : decide (0 < (putR out).length) = decide (0 < out.length) := by rw [decide_eq_decide]; exact HPI.out
        have HN : Hid (fin = cleanG (out, decide (0 < (putR out).length)) (runesI ((bl s).drop (pos + f.2)))) := Lib.hid (by rw [hwt]; exact HN.out)
        clear hwt HPI b1
        generalize hm : (putR out).length = m at *
        have HM := Lib.hid hm
        clear hm
        by_cases hm0 : 0 < m
        all_goals
          first | rw [show decide (0 < m) = true from decide_eq_true hm0] at HN | rw [show decide (0 < m) = false from decide_eq_false hm0] at HN
          go_wp2_with fail
          refine HC.out.mono ?_
          rintro e w1 ⟨rfl, rfl⟩
          go_wp2_with fail
          refine HL.out.mono ?_
          rintro e w1 ⟨rfl, rfl⟩
          go_wp2_with fail
          go_roundw
          case rel => exact ⟨pos + f.2, out, _, rfl, hle, by omega, hbd2, hit2, hbw2, HN⟩
          case measure =>
            simp only [World.iterPos, hit2, hit]
            omega
      · rw [if_neg b1] at HN
        have HC := Lib.hid (blank_no (f.1 : Int) (wr.iterAt (w.heap.size + 1) s (pos + f.2)) (by simpa using b1))
        have HC2 := Lib.hid (control_any (f.1 : Int) (wr.iterAt (w.heap.size + 1) s (pos + f.2)))
        clear b1 HPI
        cases b2 : ctrlB (f.1 : Int) with
        | true =>
          rw [b2] at HN HC2
          simp only [if_true] at HN
          clear b2
          go_wp2_with fail
          refine HC.out.mono ?_
          rintro e w1 ⟨rfl, rfl⟩
          go_wp2_with fail
          refine HC2.out.mono ?_
          rintro e w1 ⟨rfl, rfl⟩
          go_wp2_with fail
          go_roundw
          case rel => exact ⟨pos + f.2, out, wait, rfl, hle, by omega, hbd2, hit2, hbw2, HN⟩
          case measure =>
            simp only [World.iterPos, hit2, hit]
            omega
        | false =>
          rw [b2] at HN HC2
          clear b2
          cases wait with
          | false =>
            simp only [if_false, Bool.false_eq_true] at HN
            have HW := Lib.hid (writeRune_k w.heap.size w.heap.size (putR out) (f.1 : Int) (by omega) (by omega) (wr.iterAt (w.heap.size + 1) s (pos + f.2)) hbd2 (by omega) (by omega))
            rw [← putR_snoc] at HW
            go_wp2_with fail
            refine HC.out.mono ?_
            rintro e w1 ⟨rfl, rfl⟩
            go_wp2_with fail
            refine HC2.out.mono ?_
            rintro e w1 ⟨rfl, rfl⟩
            go_wp2_with fail
            refine HW.out.mono ?_
            rintro e w1 ⟨rfl, hbd3, hb3, hk3⟩
            have hit3 := Lib.OthersKept.iter hk3 hit2 (by omega)
            go_wp2_with fail
            go_roundw
            case rel => exact ⟨pos + f.2, out ++ [(f.1 : Int)], false, rfl, hle, by simp; omega, hbd3, hit3, hbw2.trans hb3, HN⟩
            case measure =>
              simp only [World.iterPos, hit3, hit]
              omega
          | true =>
            simp only [if_false, if_true, Bool.false_eq_true] at HN
            have HB := Lib.hid (writeByte_k w.heap.size w.heap.size (putR out) 32 (wr.iterAt (w.heap.size + 1) s (pos + f.2)) hbd2 (by omega) (by omega))
            rw [← enc_32, ← putR_snoc] at HB
            have hpl2 := putR_len (out ++ [32])
            rw [List.length_append] at hpl2
            simp only [List.length_cons, List.length_nil] at hpl2
            go_wp2_with fail
            refine HC.out.mono ?_
            rintro e w1 ⟨rfl, rfl⟩
            go_wp2_with fail
            refine HC2.out.mono ?_
            rintro e w1 ⟨rfl, rfl⟩
            go_wp2_with fail
            refine HB.out.mono ?_
            rintro e w1 ⟨rfl, hbd3, hb3, hk3⟩
            have hit3 := Lib.OthersKept.iter hk3 hit2 (by omega)
            have hs3 := hb3.size
            have HW := Lib.hid (writeRune_k w.heap.size w.heap.size (putR (out ++ [32])) (f.1 : Int) (by omega) (by omega) w1 hbd3 (by omega) (by omega))
            rw [← putR_snoc] at HW
            go_wp2_with fail
            refine HW.out.mono ?_
            rintro e w2 ⟨rfl, hbd4, hb4, hk4⟩
            have hit4 := Lib.OthersKept.iter hk4 hit3 (by omega)
            go_wp2_with fail
            go_roundw
            case rel => exact ⟨pos + f.2, out ++ [32] ++ [(f.1 : Int)], false, rfl, hle, by simp; omega, hbd4, hit4, (hbw2.trans hb3).trans hb4, HN⟩
            case measure =>
              simp only [World.iterPos, hit4, hit]
              omega
    · have hnx : ∀ ty, (Instr.next (.pointer (some ⟨w.heap.size + 1, 0, none⟩)) true ty).run Tryz.prog wr = _ := fun ty => Lib.run_next_end_at wr (w.heap.size + 1) s pos ty hit hp
      have HE : Hid (fin = out) := Lib.hid (clean_end HR.out (by omega))
      have HC := Lib.hid (bString_k w.heap.size w.heap.size (putR out) wr hbd (by omega))
      go_wp2_with fail
      refine HC.out.mono ?_
      rintro e w1 ⟨rfl, _, hb1, _⟩
      go_wp2_with fail
      go_ret
      rw [HE.out]
      exact ⟨rfl, hbw.trans hb1⟩
end Go.Proofs.YtjjlmkleidbmhaaGreatDoor
end
section
namespace Go.Proofs.YtjjlmkleidbmhaaGreatDoor
open Go.RowKit Go.Nst
set_option maxRecDepth 100000
set_option linter.unusedVariables false
set_option linter.unusedSimpArgs false

/-- a rune of the row is written anew -/
theorem On.set_ {w : World} {base n c : Nat} {A : Option Addr} {l : List Int} (h : On w base A n c l) {g k : Nat} (hA : A = some ⟨g, 0, none⟩) (hk : k < n) (z : Int) : On (w.setCell ⟨g, k, none⟩ (.int .i32 z)) base A n c (l.set k z) := by
  subst hA
  have hl := h.rn.len
  refine ⟨by rw [rv_len, List.length_set]; omega, ?_⟩
  rcases h.2 with ⟨e, rfl⟩ | ⟨g', cap, cur, hv, hg, hh, hnc, hcm, hcs, htake⟩
  · cases e
  · injection hv with hv1 hv2 hv3
    injection hv1 with hv1
    injection hv1 with hv1
    subst hv1
    subst hv3
    refine .inr ⟨g, c, cur.setIfInBounds k (.int .i32 z), rfl, hg, ?_, hnc, hcm, by simpa using hcs, ?_⟩
    · simp [World.setCell, Array.getElem?_modify, hh]
    · have : (cur.setIfInBounds k (.int .i32 z)).toList = cur.toList.set k (.int .i32 z) := by simp
      rw [this, List.take_set, htake]
      simp [rv, List.map_set]
theorem On.where_ {w : World} {base n c : Nat} {A : Option Addr} {l : List Int} (h : On w base A n c l) (hn : 0 < n) : ∃ g, A = some ⟨g, 0, none⟩ ∧ base ≤ g ∧ g < w.heap.size ∧ ∀ i, w.frozen? ⟨g, i, none⟩ = false := by
  rcases h.2 with ⟨e, rfl⟩ | ⟨g, cap, cur, hv, hg, hh, r⟩
  · omega
  · injection hv with hv1 hv2 hv3
    exact ⟨g, hv1, hg, (Array.getElem?_eq_some_iff.1 hh).1, fun i => by simp [World.frozen?, hh]⟩

theorem cleanG_take {l : List Int} {k : Nat} {z : Int} {st : List Int × Bool} {fin : List Int} (h : fin = cleanG st (l.drop k)) (hz : l[k]? = some z) : fin = cleanG (cleanS st z) (l.drop (k + 1)) := by
  rw [h, List.drop_eq_getElem_cons (List.getElem?_eq_some_iff.1 hz).1, (List.getElem?_eq_some_iff.1 hz).2, cleanG_cons]
theorem cleanG_done {l : List Int} {k : Nat} {st : List Int × Bool} {fin : List Int} (h : fin = cleanG st (l.drop k)) (hk : l.length ≤ k) : fin = st.1 := by
  rw [h, List.drop_of_length_le hk]
  rfl
theorem runesI_le (l : List UInt8) : (runesI l).length ≤ l.length := by rw [runesI_len]; exact runesL_le l
theorem ok_32 {l : List Int} (h : Okr l) : I32 l := fun z hz => by have := h z hz; omega

set_option maxHeartbeats 4000000 in
theorem refClean_any (s : ByteArray) (w : World) (hS : s.size ≤ 100000) : Calls Tryz.prog 119 #[.string s] w (RetS w (cleanT (bl s))) := by
  have hbl := bl_len s
  have hrl := runesI_le (bl s)
  have h32 := ok_32 (clean_ok _ (runes_ok (bl s)))
  unfold cleanT
  have HRN := Lib.hid (refRunes_any s w (by omega))
  generalize hrs : runesI (bl s) = rs at *
  have HF : ∃ fin, cleanR rs = fin := ⟨_, rfl⟩
  obtain ⟨fin, hfin⟩ := HF
  have HT : Hid (fin = cleanG ([], false) (rs.drop 0)) := Lib.hid hfin.symm
  rw [hfin] at h32 ⊢
  have HI := Lib.hid h32
  clear hfin h32 hrs
  go_enter Tryz.func119, Tryz.ntmps119
  go_wp2_with fail
  refine HRN.out.mono ?_
  rintro e w1 ⟨A1, n1, c1, rfl, hO1, hb1⟩
  have hR := hO1.rn
  have hlen := hR.len
  go_wp2_with fail
  go_loopw [4, 5, 6] (fun v t i wr => ∃ (k m : Nat) (A2 : Option Addr) (c2 : Nat) (out : List Int) (wait : Bool), v = .slice A2 m c2 ∧ t = .bool wait ∧ i = .int .i64 (k : Int) ∧ k ≤ n1 ∧ m ≤ 2 * k ∧ On wr w1.heap.size A2 m c2 out ∧ Below w1.heap.size w1 wr ∧ Hid (fin = cleanG (out, wait) (rs.drop k))) (fun _ _ i _ => n1 - (intOf i).toNat)
  case atStart => exact ⟨0, 0, none, 0, [], false, rfl, rfl, rfl, by omega, by omega, On.nil, Below.refl _ _, HT⟩
  case round =>
    obtain ⟨k, m, A2, c2, out, wait, rfl, rfl, rfl, hk, hm, hO, hbw, HR⟩ := hrel
    have hbs := hbw.size
    by_cases hlt : k < n1
    · obtain ⟨z, b, off, rfl, hz, hb, hc⟩ := Rn.at (hR.below hbw) hlt
      have HN := Lib.hid (cleanG_take HR.out hz.out)
      unfold cleanS at HN
      have hO3 := fun W (hbW : Below wr.heap.size wr W) => hO.below hbW
      by_cases b1 : blankB z = true
      · have HC := Lib.hid (refBlank_yes z wr b1)
        rw [if_pos b1] at HN
        have hol := hO.rn.len
        have hwt : decide (0 < m) = decide (0 < out.length) := by rw [hol]
        have HN : Hid (fin = cleanG (out, decide (0 < m)) (rs.drop (k + 1))) := Lib.hid (by rw [hwt]; exact HN.out)
        clear hwt b1
        by_cases hm0 : 0 < m
        all_goals
          first | rw [show decide (0 < m) = true from decide_eq_true hm0] at HN | rw [show decide (0 < m) = false from decide_eq_false hm0] at HN
          go_wp2_with fail
          refine HC.out.mono ?_
          rintro e w2 ⟨rfl, rfl⟩
          go_wp2_with fail
          go_roundw
          case rel => exact ⟨k + 1, m, A2, c2, out, _, rfl, rfl, by go_num, by omega, by omega, hO, hbw, HN⟩
          case measure => simp [intOf]; omega
      · rw [if_neg b1] at HN
        have HC := Lib.hid (refBlank_no z wr (by simpa using b1))
        clear b1
        rcases ctrl_split (c := z) with ⟨h1, h2⟩ | ⟨h1, h3, h2⟩ | ⟨h1, h3, h4, h2⟩ | ⟨h1, h3, h4, h2⟩
        · rw [h2, if_pos rfl] at HN
          clear h2
          go_wp2_with fail
          refine HC.out.mono ?_
          rintro e w2 ⟨rfl, rfl⟩
          go_wp2_with fail
          go_roundw
          case rel => exact ⟨k + 1, m, A2, c2, out, wait, rfl, rfl, by go_num, by omega, by omega, hO, hbw, HN⟩
          case measure => simp [intOf]; omega
        · rw [h2, if_neg (by decide)] at HN
          clear h2
          have hO32 := hO.below (bel_alloc (Below.refl _ _) (.cells #[.int .i32 32] 21))
          have hB32 := Rn.const wr [32] #[.int .i32 32] 21 (0, 0) 1 rfl rfl
          have hOz := hO.below (bel_alloc (Below.refl _ _) (.cells #[.int .i32 z] 21))
          have hBz := Rn.const wr [z] #[.int .i32 z] 21 (0, 0) 1 rfl rfl
          cases wait with
          | false =>
            rw [if_neg (by simp)] at HN
            go_wp2_with fail
            refine HC.out.mono ?_
            rintro e w2 ⟨rfl, rfl⟩
            go_wp2_with (at_builtin; refine wpList_appR _ rfl rfl rfl hOz rfl hBz (m + 1) (out ++ [z]) rfl rfl (by omega) (by simp; omega) ?_; intro A' c' w' ho hb)
            go_roundw
            case rel => exact ⟨k + 1, m + 1, A', c', out ++ [z], false, rfl, rfl, by go_num, by omega, by omega, ho, (hbw.alloc hbs _).trans hb, HN⟩
            case measure => simp [intOf]; omega
          | true =>
            rw [if_pos rfl] at HN
            go_wp2_with fail
            refine HC.out.mono ?_
            rintro e w2 ⟨rfl, rfl⟩
            go_wp2_with (first
              | (at_builtin; have _t := hO32; refine wpList_appR _ rfl rfl rfl hO32 rfl hB32 (m + 1) (out ++ [32]) rfl rfl (by omega) (by simp; omega) ?_; intro A' c' w' ho hb; clear hO32 _t hOz hBz; have hbx := (hbw.alloc hbs _).trans hb; have hbxs := hbx.size; have hO4 := ho.below (bel_alloc (Below.refl _ _) (.cells #[.int .i32 z] 21)); have hB4 := Rn.const w' [z] #[.int .i32 z] 21 (0, 0) 1 rfl rfl)
              | (at_builtin; refine wpList_appR _ rfl rfl rfl hO4 rfl hB4 (m + 1 + 1) (out ++ [32] ++ [z]) rfl rfl (by omega) (by simp; omega) ?_; intro A'' c'' w'' ho2 hb2))
            go_roundw
            case rel => exact ⟨k + 1, m + 1 + 1, A'', c'', out ++ [32] ++ [z], false, rfl, rfl, by go_num, by omega, by omega, ho2, (hbx.alloc hbxs _).trans hb2, HN⟩
            case measure => simp [intOf]; omega
        · rw [h2, if_pos rfl] at HN
          clear h2
          go_wp2_with fail
          refine HC.out.mono ?_
          rintro e w2 ⟨rfl, rfl⟩
          go_wp2_with fail
          go_roundw
          case rel => exact ⟨k + 1, m, A2, c2, out, wait, rfl, rfl, by go_num, by omega, by omega, hO, hbw, HN⟩
          case measure => simp [intOf]; omega
        · rw [h2, if_neg (by decide)] at HN
          clear h2
          have hO32 := hO.below (bel_alloc (Below.refl _ _) (.cells #[.int .i32 32] 21))
          have hB32 := Rn.const wr [32] #[.int .i32 32] 21 (0, 0) 1 rfl rfl
          have hOz := hO.below (bel_alloc (Below.refl _ _) (.cells #[.int .i32 z] 21))
          have hBz := Rn.const wr [z] #[.int .i32 z] 21 (0, 0) 1 rfl rfl
          cases wait with
          | false =>
            rw [if_neg (by simp)] at HN
            go_wp2_with fail
            refine HC.out.mono ?_
            rintro e w2 ⟨rfl, rfl⟩
            go_wp2_with (at_builtin; refine wpList_appR _ rfl rfl rfl hOz rfl hBz (m + 1) (out ++ [z]) rfl rfl (by omega) (by simp; omega) ?_; intro A' c' w' ho hb)
            go_roundw
            case rel => exact ⟨k + 1, m + 1, A', c', out ++ [z], false, rfl, rfl, by go_num, by omega, by omega, ho, (hbw.alloc hbs _).trans hb, HN⟩
            case measure => simp [intOf]; omega
          | true =>
            rw [if_pos rfl] at HN
            go_wp2_with fail
            refine HC.out.mono ?_
            rintro e w2 ⟨rfl, rfl⟩
            go_wp2_with (first
              | (at_builtin; have _t := hO32; refine wpList_appR _ rfl rfl rfl hO32 rfl hB32 (m + 1) (out ++ [32]) rfl rfl (by omega) (by simp; omega) ?_; intro A' c' w' ho hb; clear hO32 _t hOz hBz; have hbx := (hbw.alloc hbs _).trans hb; have hbxs := hbx.size; have hO4 := ho.below (bel_alloc (Below.refl _ _) (.cells #[.int .i32 z] 21)); have hB4 := Rn.const w' [z] #[.int .i32 z] 21 (0, 0) 1 rfl rfl)
              | (at_builtin; refine wpList_appR _ rfl rfl rfl hO4 rfl hB4 (m + 1 + 1) (out ++ [32] ++ [z]) rfl rfl (by omega) (by simp; omega) ?_; intro A'' c'' w'' ho2 hb2))
            go_roundw
            case rel => exact ⟨k + 1, m + 1 + 1, A'', c'', out ++ [32] ++ [z], false, rfl, rfl, by go_num, by omega, by omega, ho2, (hbx.alloc hbxs _).trans hb2, HN⟩
            case measure => simp [intOf]; omega
    · have HE : Hid (fin = out) := Lib.hid (cleanG_done HR.out (by omega))
      have HC := Lib.hid (refPut5_any A2 m c2 out wr hO.rn (by rw [← HE.out]; exact HI.out) (by omega))
      go_wp2_with fail
      refine HC.out.mono ?_
      rintro e w2 ⟨rfl, hb2⟩
      go_wp2_with fail
      go_ret
      rw [HE.out]
      exact ⟨rfl, bel_step (bel_step hb1 hbw) hb2⟩
end Go.Proofs.YtjjlmkleidbmhaaGreatDoor
end
section
namespace Go.Proofs.YtjjlmkleidbmhaaGreatDoor
open Go.RowKit Go.Nst
set_option maxRecDepth 100000
set_option linter.unusedVariables false
set_option linter.unusedSimpArgs false

theorem bl_of (l : List UInt8) : bl ⟨l.toArray⟩ = l := by simp [bl]
theorem size_of (l : List UInt8) : (ByteArray.mk l.toArray).size = l.length := by simp [ByteArray.size]
theorem bl_upto (s : ByteArray) (k : Nat) : bl (s.extract 0 k) = (bl s).take k := by
  unfold bl
  rw [ByteArray.data_extract]
  simp
theorem str_upto (s : ByteArray) (k : Nat) : s.extract 0 k = ⟨((bl s).take k).toArray⟩ := by rw [← bl_upto, bl_mk]
theorem bl_mid (s : ByteArray) (i k : Nat) : bl (s.extract i k) = ((bl s).drop i).take (k - i) := by
  unfold bl
  rw [ByteArray.data_extract]
  simp [List.drop_take]
theorem bl_toList (s : ByteArray) : s.toList = bl s := ByteArray.toList_eq s
end Go.Proofs.YtjjlmkleidbmhaaGreatDoor
end
section
namespace Go.Proofs.YtjjlmkleidbmhaaGreatDoor
open Go.RowKit Go.Nst
set_option maxRecDepth 100000
set_option linter.unusedVariables false
set_option linter.unusedSimpArgs false

/-- the folded text -/
def foldT (l : List UInt8) : List UInt8 := putR ((runesI l).map foldC)
theorem fold_round {l : List UInt8} {pos : Nat} {acc fin : List Int} (h : fin = acc ++ (runesI (l.drop pos)).map foldC) (hp : pos < l.length) : fin = (acc ++ [foldC ((firstL (l.drop pos)).1 : Int)]) ++ (runesI (l.drop (pos + (firstL (l.drop pos)).2))).map foldC := by
  rw [h, runesI_step (drop_ne hp), List.drop_drop]
  simp
theorem fold_end {l : List UInt8} {pos : Nat} {acc fin : List Int} (h : fin = acc ++ (runesI (l.drop pos)).map foldC) (hp : ¬ pos < l.length) : fin = acc := by
  rw [h, List.drop_of_length_le (by omega)]
  simp [runesI, runesL_nil]
theorem foldC_bd {c : Int} (h0 : 0 ≤ c) (h1 : c ≤ 1114111) : 0 ≤ foldC c ∧ foldC c ≤ 1114111 := by unfold foldC; (repeat' split) <;> omega

set_option maxHeartbeats 4000000 in
theorem fold_any5 (s : ByteArray) (w : World) (hS : s.size ≤ 10000000) : Calls Tryz.prog 106 #[.string s] w (RetS w (foldT (bl s))) := by
  have hbl := bl_len s
  unfold foldT
  have HT := Lib.hid (show (runesI (bl s)).map foldC = [] ++ (runesI ((bl s).drop 0)).map foldC from rfl)
  generalize (runesI (bl s)).map foldC = fin at HT ⊢
  go_enter Tryz.func106, Tryz.ntmps106
  go_wp2_with fail
  go_loopw [] (fun wr => ∃ (pos : Nat) (out : List Int), pos ≤ s.size ∧ out.length ≤ pos ∧ Bd wr w.heap.size w.heap.size (putR out) ∧ wr.heap[w.heap.size + 1]? = some (.stringIter s pos) ∧ Below w.heap.size w wr ∧ Hid (fin = out ++ (runesI ((bl s).drop pos)).map foldC)) (fun wr => s.size - wr.iterPos (w.heap.size + 1))
  case atStart =>
    refine ⟨0, [], by omega, by simp, (Bd.fresh w).alloc _, ?_, bel_alloc (bel_alloc (Below.refl _ _) _) _, HT⟩
    have := World.iter_heap (w.alloc (.cells #[.pointer none, .slice none 0 0] 72)) s 0
    simpa using this
  case round =>
    obtain ⟨pos, out, hps, hol, hbd, hit, hbw, HR⟩ := hrel
    have hsz : w.heap.size + 1 < wr.heap.size := (Array.getElem?_eq_some_iff.1 hit).1
    by_cases hp : pos < s.size
    · have hnx : ∀ ty, (Instr.next (.pointer (some ⟨w.heap.size + 1, 0, none⟩)) true ty).run Tryz.prog wr = _ := fun ty => Lib.run_next_any_at wr (w.heap.size + 1) s pos ty hit hp
      have hw1 := firstL_width ((bl s).drop pos) (drop_ne (by omega))
      have hr1 := (firstL_rune ((bl s).drop pos)).1
      have HN := Lib.hid (fold_round HR.out (by omega))
      have hle : pos + (firstL ((bl s).drop pos)).2 ≤ s.size := by have := hw1.2.2; rw [List.length_drop, hbl] at this; omega
      rw [decode_bl s pos hp] at hnx
      generalize firstL ((bl s).drop pos) = f at *
      have hit2 := Lib.iterAt_heap wr (w.heap.size + 1) s pos (pos + f.2) hit
      have hbw2 := Lib.below_iterAt hbw (k := w.heap.size + 1) (by omega) s (pos + f.2)
      have hbd2 : Bd (wr.iterAt (w.heap.size + 1) s (pos + f.2)) w.heap.size w.heap.size (putR out) := Lib.IsBuilderF.iterAt hbd hit (pos + f.2)
      have hsz2 : w.heap.size + 1 < (wr.iterAt (w.heap.size + 1) s (pos + f.2)).heap.size := by rw [Lib.iterAt_size]; omega
      have hpl := putR_len out
      have hfb := foldC_bd (c := (f.1 : Int)) (by omega) (by omega)
      have HC := Lib.hid (fold5_any (f.1 : Int) (wr.iterAt (w.heap.size + 1) s (pos + f.2)) (by omega) (by omega))
      generalize foldC (f.1 : Int) = z at *
      have HW := Lib.hid (writeRune_k w.heap.size w.heap.size (putR out) z (by omega) (by omega) (wr.iterAt (w.heap.size + 1) s (pos + f.2)) hbd2 (by omega) (by omega))
      rw [← putR_snoc] at HW
      go_wp2_with fail
      refine HC.out.mono ?_
      rintro e w1 ⟨rfl, rfl⟩
      go_wp2_with fail
      refine HW.out.mono ?_
      rintro e w1 ⟨rfl, hbd3, hb3, hk3⟩
      have hit3 := Lib.OthersKept.iter hk3 hit2 (by omega)
      go_wp2_with fail
      go_roundw
      case rel => exact ⟨pos + f.2, out ++ [z], hle, by simp; omega, hbd3, hit3, hbw2.trans hb3, HN⟩
      case measure =>
        simp only [World.iterPos, hit3, hit]
        omega
    · have hnx : ∀ ty, (Instr.next (.pointer (some ⟨w.heap.size + 1, 0, none⟩)) true ty).run Tryz.prog wr = _ := fun ty => Lib.run_next_end_at wr (w.heap.size + 1) s pos ty hit hp
      have HE : Hid (fin = out) := Lib.hid (fold_end HR.out (by omega))
      have HC := Lib.hid (bString_k w.heap.size w.heap.size (putR out) wr hbd (by omega))
      go_wp2_with fail
      refine HC.out.mono ?_
      rintro e w1 ⟨rfl, _, hb1, _⟩
      go_wp2_with fail
      go_ret
      rw [HE.out]
      exact ⟨rfl, hbw.trans hb1⟩

/-- the first k are folded -/
def foldK (l : List Int) (k : Nat) : List Int := (l.take k).map foldC ++ l.drop k
theorem foldK_get {l : List Int} {k : Nat} {z : Int} (hz : l[k]? = some z) : (foldK l k)[k]? = some z := by
  have hk := (List.getElem?_eq_some_iff.1 hz).1
  unfold foldK
  rw [List.getElem?_append_right (by simp; omega)]
  simp
  rw [show k - min k l.length = 0 by omega]
  simpa using hz
theorem foldK_set {l : List Int} {k : Nat} {z : Int} (hz : l[k]? = some z) : (foldK l k).set k (foldC z) = foldK l (k + 1) := by
  have hk := (List.getElem?_eq_some_iff.1 hz).1
  unfold foldK
  rw [List.set_append_right _ _ (by simp; omega)]
  have e1 : k - ((l.take k).map foldC).length = 0 := by simp; omega
  have e2 : l.drop k = z :: l.drop (k + 1) := by rw [List.drop_eq_getElem_cons hk, (List.getElem?_eq_some_iff.1 hz).2]
  rw [e1, e2, List.take_add_one, hz]
  simp
theorem foldK_all {l : List Int} {k : Nat} (h : l.length ≤ k) : foldK l k = l.map foldC := by
  unfold foldK
  rw [List.take_of_length_le h, List.drop_of_length_le h]
  simp
theorem map_32 (l : List UInt8) : I32 ((runesI l).map foldC) := ok_32 (foldC_ok _ (runes_ok l))

set_option maxHeartbeats 4000000 in
theorem refFold_any5 (s : ByteArray) (w : World) (hS : s.size ≤ 100000) : Calls Tryz.prog 93 #[.string s] w (RetS w (foldT (bl s))) := by
  have hbl := bl_len s
  have hrl := runesI_le (bl s)
  have hok := runes_ok (bl s)
  unfold foldT
  have HI := Lib.hid (map_32 (bl s))
  have HRN := Lib.hid (refRunes_any s w (by omega))
  generalize hrs : runesI (bl s) = rs at *
  have HOK := Lib.hid hok
  clear hrs hok
  go_enter Tryz.func93, Tryz.ntmps93
  go_wp2_with fail
  refine HRN.out.mono ?_
  rintro e w1 ⟨A1, n1, c1, rfl, hO1, hb1⟩
  have hlen := hO1.rn.len
  go_wp2_with fail
  go_loopw [4] (fun i wr => ∃ (k : Nat), i = .int .i64 (k : Int) ∧ k ≤ n1 ∧ On wr w.heap.size A1 n1 c1 (foldK rs k) ∧ Below w.heap.size w wr) (fun i _ => n1 - (intOf i).toNat)
  case atStart => exact ⟨0, rfl, by omega, by simpa [foldK] using hO1, hb1⟩
  case round =>
    obtain ⟨k, rfl, hk, hO, hbw⟩ := hrel
    by_cases hlt : k < n1
    · obtain ⟨g, rfl, hg1, hg2, hfz⟩ := hO.where_ (by omega)
      have hzz : rs[k]? = some (rs[k]'(by omega)) := List.getElem?_eq_getElem (by omega)
      obtain ⟨z, hz0⟩ : ∃ z, rs[k]'(by omega) = z := ⟨_, rfl⟩
      rw [hz0] at hzz
      have HZ := Lib.hid hzz
      have hzb := HOK.out z (List.mem_of_getElem? hzz)
      clear hz0 hzz
      obtain ⟨z', b', off', e1, hz', _, hc⟩ := Rn.at hO.rn hlt
      have e2 := foldK_get HZ.out
      rw [hz'.out] at e2
      injection e2 with e2
      subst e2
      injection e1 with e1
      injection e1 with e3 e4
      subst e3
      subst e4
      rw [Nat.zero_add] at hc
      have hf1 := hfz k
      have HN := Lib.hid (hO.set_ rfl hlt (foldC z'))
      rw [foldK_set HZ.out] at HN
      have HC := Lib.hid (fun W => refold_any z' W (by omega) (by omega))
      generalize foldC z' = y at *
      clear hfz
      go_wp2_with fail
      refine (HC.out _).mono ?_
      rintro e w2 ⟨rfl, rfl⟩
      go_wp2_with fail
      go_roundw
      case rel => exact ⟨k + 1, by go_num, by omega, HN.out, hbw.setCell (p := ⟨g, k, none⟩) hg1 _⟩
      case measure => simp [intOf]; omega
    · have HE := Lib.hid (foldK_all (l := rs) (k := k) (by omega))
      rw [HE.out] at hO
      have HC := Lib.hid (refPut5_any A1 n1 c1 _ wr hO.rn HI.out (by omega))
      go_wp2_with fail
      refine HC.out.mono ?_
      rintro e w2 ⟨rfl, hb2⟩
      go_wp2_with fail
      go_ret
      exact ⟨rfl, bel_step hbw hb2⟩

end Go.Proofs.YtjjlmkleidbmhaaGreatDoor
end
section
namespace Go.Proofs.YtjjlmkleidbmhaaGreatDoor
open Go.RowKit Go.Nst
set_option maxRecDepth 100000
set_option linter.unusedVariables false

theorem right_round {l : List UInt8} {pos : Nat} {tot : Bool} (h : tot = rightL (l.drop pos)) (hp : pos < l.length) : tot = (!((firstL (l.drop pos)).1 == 65533 && (firstL (l.drop pos)).2 == 1) && rightL (l.drop (pos + (firstL (l.drop pos)).2))) := by
  rw [h, rightL_step _ (drop_ne hp), List.drop_drop]

set_option maxHeartbeats 2000000 in
theorem right_any (s : ByteArray) (w : World) (hS : s.size ≤ 10000000) : Calls Tryz.prog 127 #[.string s] w fun e w' => e = .returned (.bool (rightL (bl s))) ∧ Below w.heap.size w w' := by
  have HT := Lib.hid (show rightL (bl s) = rightL ((bl s).drop 0) from rfl)
  have hbl := bl_len s
  generalize rightL (bl s) = tot at *
  go_enter Tryz.func127, Tryz.ntmps127
  go_wp2_with fail
  go_loopw [] (fun wr => ∃ (pos : Nat), pos ≤ s.size ∧ wr.heap[w.heap.size]? = some (.stringIter s pos) ∧ Below w.heap.size w wr ∧ Hid (tot = rightL ((bl s).drop pos))) (fun wr => s.size - wr.iterPos w.heap.size)
  case atStart =>
    refine ⟨0, by omega, ?_, bel_alloc (Below.refl _ _) _, HT⟩
    have := World.iter_heap w s 0
    simpa using this
  case round =>
    obtain ⟨pos, hps, hit, hbw, HR⟩ := hrel
    have hsz : w.heap.size < wr.heap.size := (Array.getElem?_eq_some_iff.1 hit).1
    by_cases hp : pos < s.size
    · have hnx : ∀ ty, (Instr.next (.pointer (some ⟨w.heap.size, 0, none⟩)) true ty).run Tryz.prog wr = _ := fun ty => Lib.run_next_any_at wr w.heap.size s pos ty hit hp
      have hw1 := firstL_width ((bl s).drop pos) (drop_ne (by omega))
      have HN := Lib.hid (right_round HR.out (by omega))
      have hle : pos + (firstL ((bl s).drop pos)).2 ≤ s.size := by have := hw1.2.2; rw [List.length_drop, hbl] at this; omega
      have HB := Lib.hid (first_bad ((bl s).drop pos))
      rw [decode_bl s pos hp] at hnx
      rw [← bl_from s pos] at HB
      rw [bl_from s pos] at HB
      generalize hf : firstL ((bl s).drop pos) = f at *
      have hit2 := Lib.iterAt_heap wr w.heap.size s pos (pos + f.2) hit
      have hbw2 := Lib.below_iterAt hbw (k := w.heap.size) (by omega) s (pos + f.2)
      by_cases c1 : f.1 = 65533
      · have d1 : ((f.1 : Int) == 65533) = true := by simp; omega
        have HP := Lib.hid (Tryz.strings_HasPrefix (s.extract pos s.size) ⟨#[239, 191, 189]⟩ (wr.iterAt w.heap.size s (pos + f.2)))
        have hpre : Lib.hasPrefix (s.extract pos s.size).data.toList [239, 191, 189] = !(f.2 == 1) := by
          have := HB.out c1
          rw [← bl_from s pos] at this
          exact this
        rw [show (ByteArray.mk #[239, 191, 189]).data.toList = [239, 191, 189] from rfl, hpre] at HP
        clear hpre HB
        by_cases c2 : f.2 = 1
        · have HN : Hid (tot = false) := Lib.hid (by rw [HN.out]; simp [c1, c2])
          rw [show (!(f.2 == 1)) = false by simp [c2]] at HP
          rw [c2] at HP hbw2
          go_wp2_with fail
          refine HP.out.mono ?_
          rintro e w1 ⟨rfl, rfl⟩
          go_wp2_with fail
          go_ret
          rw [HN.out]
          exact ⟨rfl, hbw2⟩
        · have HN : Hid (tot = rightL ((bl s).drop (pos + f.2))) := Lib.hid (by rw [HN.out]; simp [c1, c2])
          rw [show (!(f.2 == 1)) = true by simp [c2]] at HP
          go_wp2_with fail
          refine HP.out.mono ?_
          rintro e w1 ⟨rfl, rfl⟩
          go_wp2_with fail
          go_roundw
          case rel => exact ⟨pos + f.2, hle, hit2, hbw2, HN⟩
          case measure =>
            simp only [World.iterPos, hit2, hit]
            omega
      · have d1 : ((f.1 : Int) == 65533) = false := by simp; omega
        have HN : Hid (tot = rightL ((bl s).drop (pos + f.2))) := Lib.hid (by rw [HN.out]; simp [c1])
        go_wp2_with fail
        go_roundw
        case rel => exact ⟨pos + f.2, hle, hit2, hbw2, HN⟩
        case measure =>
          simp only [World.iterPos, hit2, hit]
          omega
    · have hnx : ∀ ty, (Instr.next (.pointer (some ⟨w.heap.size, 0, none⟩)) true ty).run Tryz.prog wr = _ := fun ty => Lib.run_next_end_at wr w.heap.size s pos ty hit hp
      have HE : Hid (tot = true) := Lib.hid (by rw [HR.out, List.drop_of_length_le (by omega)]; rfl)
      go_wp2_with fail
      go_ret
      rw [HE.out]
      exact ⟨rfl, hbw⟩
end Go.Proofs.YtjjlmkleidbmhaaGreatDoor
end
end
