/-
  utf.Put and the reference's: the text of runes.
-/
import Derived.Test.YtleachcokgjocabUtfE
import Derived.Test.YtleachcokgjocabBld
namespace Go.Proofs.Ytleachcokgjocab
open Go.RowKit Go.Nst
set_option maxRecDepth 100000
set_option linter.unusedVariables false

/-- each is an int32 -/
def I32 (l : List Int) : Prop := ∀ z ∈ l, -2147483648 ≤ z ∧ z ≤ 2147483647
theorem I32.at {l : List Int} (h : I32 l) {k : Nat} {z : Int} (hz : l[k]? = some z) : -2147483648 ≤ z ∧ z ≤ 2147483647 := h z (List.mem_of_getElem? hz)
theorem putR_round {l : List Int} {k : Nat} {z : Int} (hz : l[k]? = some z) : putR (l.take (k + 1)) = putR (l.take k) ++ Lib.encodeRune z := by
  rw [List.take_add_one, hz]
  simp [putR]
theorem enc_len (z : Int) : 1 ≤ (Lib.encodeRune z).length ∧ (Lib.encodeRune z).length ≤ 4 := by
  have := Lib.runeCells_le z
  rwa [Lib.runeCells_length] at this
theorem putR_len (l : List Int) : (putR l).length ≤ 4 * l.length := by
  induction l with
  | nil => simp [putR]
  | cons z t ih =>
    have := enc_len z
    simp only [putR, List.flatMap_cons, List.length_append, List.length_cons] at ih ⊢
    omega
def RetS (w : World) (l : List UInt8) (e : Ending) (w' : World) : Prop := e = .returned (.string ⟨l.toArray⟩) ∧ Below w.heap.size w w'

theorem iBytesU : Info Try.prog 33 5 (.int .u8 0) 1 1 := Info.mk_ Try.underlying33 (by kernel_rfl) rfl (by omega)

theorem one_cells (r : Int) (cs : Array Value) (h : cs.toList = (Lib.encodeRuneZ r).map fun x => Value.int .u8 x) : cs.toList = bv (Lib.encodeRune r) := by
  rw [h]
  exact (Lib.byteCells_encodeRune r).symm

set_option maxHeartbeats 2000000 in
theorem one_any (r : Int) (w : World) (h0 : -2147483648 ≤ r) (h1 : r ≤ 2147483647) : Calls Try.prog 32 #[.int .i32 r] w (RetB w (Lib.encodeRune r)) := by
  have fin : ∀ cs : Array Value, cs.toList = (Lib.encodeRuneZ r).map (fun x => Value.int .u8 x) → RetB w (Lib.encodeRune r) (.returned (.slice (some ⟨w.heap.size, 0, none⟩) cs.size cs.size)) (w.alloc (.cells cs 5)) := by
    intro cs hcs
    have h2 := one_cells r cs hcs
    have h3 : (Lib.encodeRune r).length = cs.size := by rw [← bv_len, ← h2, Array.length_toList]
    have h4 := enc_len r
    have h5 := Ow.made (base := w.heap.size) w (Lib.encodeRune r) cs h2 (by unfold maxLen; omega) (Nat.le_refl _)
    rw [h3] at h5
    exact ⟨_, _, _, rfl, h5, bel_alloc (Below.refl _ _) _⟩
  by_cases hbad : r < 0 ∨ (55296 ≤ r ∧ r ≤ 57343) ∨ 1114111 < r
  · have HZ := Lib.encodeRuneZ_bad hbad
    rw [HZ] at fin
    have fin := Lib.hid (fin #[.int .u8 239, .int .u8 191, .int .u8 189] rfl)
    rcases hbad with hb | hb | hb
    all_goals
      go_enter Try.func32, Try.ntmps32
      go_wp2_with fail
      all_goals (go_ret; exact fin.out)
  by_cases c1 : r ≤ 127
  · rw [Lib.encodeRuneZ_one (by omega) c1] at fin
    have fin := Lib.hid (fin #[.int .u8 r] rfl)
    go_enter Try.func32, Try.ntmps32
    go_wp2_with fail
    all_goals (go_ret; exact fin.out)
  by_cases c2 : r ≤ 2047
  · rw [Lib.encodeRuneZ_two (by omega) c2] at fin
    have fin := Lib.hid (fin #[.int .u8 (192 + r / 64), .int .u8 (128 + r % 64)] rfl)
    go_enter Try.func32, Try.ntmps32
    go_wp2_with fail
    all_goals (go_ret; exact fin.out)
  by_cases c3 : r ≤ 65535
  · rw [Lib.encodeRuneZ_three (by omega)] at fin
    have fin := Lib.hid (fin #[.int .u8 (224 + r / 4096), .int .u8 (128 + r / 64 % 64), .int .u8 (128 + r % 64)] rfl)
    go_enter Try.func32, Try.ntmps32
    go_wp2_with fail
    all_goals (go_ret; exact fin.out)
  · rw [Lib.encodeRuneZ_four (by omega) (by omega)] at fin
    have fin := Lib.hid (fin #[.int .u8 (240 + r / 262144), .int .u8 (128 + r / 4096 % 64), .int .u8 (128 + r / 64 % 64), .int .u8 (128 + r % 64)] rfl)
    go_enter Try.func32, Try.ntmps32
    go_wp2_with fail
    all_goals (go_ret; exact fin.out)

set_option maxHeartbeats 2000000 in
theorem refPut5_any (A : Option Addr) (n c : Nat) (l : List Int) (w : World) (hR : Rn w A n l) (hI : I32 l) (hn : n ≤ 1000000) : Calls Try.prog 24 #[.slice A n c] w (RetS w (putR l)) := by
  have hl := hR.len
  have hfull : putR (l.take n) = putR l := by rw [List.take_of_length_le (by omega)]
  have HF := Lib.hid hfull
  clear hfull
  go_enter Try.func24, Try.ntmps24
  go_wp2_with fail
  go_loopw [3, 4] (fun v i wr => ∃ (k m : Nat) (A2 : Option Addr) (c2 : Nat), v = .slice A2 m c2 ∧ i = .int .i64 (k : Int) ∧ k ≤ n ∧ Ow wr w.heap.size A2 m c2 (putR (l.take k)) ∧ Below w.heap.size w wr) (fun _ i _ => n - (intOf i).toNat)
  case atStart => exact ⟨0, 0, none, 0, rfl, rfl, by omega, Ow.nil, Below.refl _ _⟩
  case round =>
    obtain ⟨k, m, A2, c2, rfl, rfl, hk, hO, hbw⟩ := hrel
    have hbs := hbw.size
    by_cases hlt : k < n
    · obtain ⟨z, b, off, rfl, hz, hb, hc⟩ := hR.at hlt
      have hcw : wr.cell? ⟨b, off + k, none⟩ = some (.int .i32 z) := (hbw.cell (p := ⟨b, off + k, none⟩) hb).trans hc
      have hzb := hI.at hz.out
      have hpl := putR_len (l.take k)
      have hkl : (l.take k).length ≤ k := by simp; omega
      have hml := hO.len
      have HP := Lib.hid (putR_round hz.out)
      have HC := Lib.hid (one_any z wr hzb.1 hzb.2)
      have hel := enc_len z
      generalize putR (l.take k) = acc at *
      generalize Lib.encodeRune z = ez at *
      go_wp2_with fail
      refine HC.out.mono ?_
      rintro e w1 ⟨A3, n3, c3, rfl, ho3, hb1⟩
      have hO1 := hO.below hb1
      have hlen3 := ho3.len
      have hs1 := hb1.size
      go_wp2_with (at_builtin; refine wpList_appBg _ iBytesU rfl rfl rfl hO1 rfl ho3.bs (m + n3) (putR (l.take (k + 1))) rfl HP.out.symm (by omega) (by omega) ?_; intro A' c' w' ho hb2 _ _)
      go_roundw
      case rel => exact ⟨k + 1, m + n3, A', c', rfl, by go_num, by omega, ho, (bel_step hbw hb1).trans hb2⟩
      case measure => simp [intOf]; omega
    · obtain rfl : k = n := by omega
      rw [HF.out] at hO
      have hcv := hO.bs.str (P := Try.prog) 33 9 5 c2 Try.underlying33 Try.underlying5 Try.underlying9
      generalize putR l = pl at *
      go_wp2_with fail
      go_ret
      exact ⟨rfl, hbw⟩
end Go.Proofs.Ytleachcokgjocab
