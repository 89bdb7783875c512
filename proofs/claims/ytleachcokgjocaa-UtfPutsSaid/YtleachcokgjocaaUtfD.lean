/-
  utf.Count, the reference's Runes and Right, the law's same.
-/
import Derived.Test.YtleachcokgjocaaUtfC
import Derived.BigQuiet
namespace Go.Proofs.Ytleachcokgjocaa
open Go.RowKit Go.Nst
set_option maxRecDepth 100000
set_option linter.unusedVariables false

theorem runesI_len (l : List UInt8) : (runesI l).length = (runesL l).length := by simp [runesI]
theorem runesL_le (l : List UInt8) : (runesL l).length ≤ l.length := by
  have : ∀ (k : Nat) (l : List UInt8), (runesF k l).length ≤ l.length := by
    intro k
    induction k with
    | zero => intro l; simp [runesF]
    | succ k ih =>
      intro l
      cases l with
      | nil => simp [runesF]
      | cons c t =>
        have hw := firstL_width (c :: t) (by simp)
        have := ih ((c :: t).drop (firstL (c :: t)).2)
        simp only [runesF, List.length_cons]
        rw [List.length_drop] at this
        simp only [List.length_cons] at this
        omega
  exact this _ l
theorem count_round {l : List UInt8} {pos k tot : Nat} (h : tot = k + (runesL (l.drop pos)).length) (hp : pos < l.length) : tot = (k + 1) + (runesL (l.drop (pos + (firstL (l.drop pos)).2))).length := by
  rw [h, runesL_step _ (drop_ne hp), List.drop_drop]
  simp
  omega
theorem count_end {l : List UInt8} {pos k tot : Nat} (h : tot = k + (runesL (l.drop pos)).length) (hp : ¬ pos < l.length) : tot = k := by
  rw [h, List.drop_of_length_le (by omega)]
  simp [runesL_nil]

set_option maxHeartbeats 2000000 in
theorem count_any (s : ByteArray) (w : World) (hS : s.size ≤ 1000000) : Calls Try.prog 11 #[.string s] w fun e w' => e = .returned (.int .i64 ((runesL (bl s)).length : Nat)) ∧ Below w.heap.size w w' := by
  have HT := Lib.hid (show (runesL (bl s)).length = 0 + (runesL ((bl s).drop 0)).length from (Nat.zero_add _).symm)
  have hbl := bl_len s
  have htl := runesL_le (bl s)
  generalize (runesL (bl s)).length = tot at *
  go_enter Try.func11, Try.ntmps11
  go_wp2_with fail
  go_loopw [3] (fun v wr => ∃ (pos k : Nat), v = .int .i64 (k : Int) ∧ k ≤ pos ∧ pos ≤ s.size ∧ wr.heap[w.heap.size]? = some (.stringIter s pos) ∧ Below w.heap.size w wr ∧ Hid (tot = k + (runesL ((bl s).drop pos)).length)) (fun _ wr => s.size - wr.iterPos w.heap.size)
  case atStart =>
    refine ⟨0, 0, rfl, by omega, by omega, ?_, bel_alloc (Below.refl _ _) _, HT⟩
    have := World.iter_heap w s 0
    simpa using this
  case round =>
    obtain ⟨pos, k, rfl, hm, hps, hit, hbw, HR⟩ := hrel
    have hsz : w.heap.size < wr.heap.size := (Array.getElem?_eq_some_iff.1 hit).1
    by_cases hp : pos < s.size
    · have hnx : ∀ ty, (Instr.next (.pointer (some ⟨w.heap.size, 0, none⟩)) true ty).run Try.prog wr = _ := fun ty => Lib.run_next_any_at wr w.heap.size s pos ty hit hp
      have hw1 := firstL_width ((bl s).drop pos) (drop_ne (by omega))
      have HN := Lib.hid (count_round HR.out (by omega))
      have hle : pos + (firstL ((bl s).drop pos)).2 ≤ s.size := by have := hw1.2.2; rw [List.length_drop, hbl] at this; omega
      rw [decode_bl s pos hp] at hnx
      generalize firstL ((bl s).drop pos) = f at *
      have hit2 := Lib.iterAt_heap wr w.heap.size s pos (pos + f.2) hit
      have hbw2 := Lib.below_iterAt hbw (k := w.heap.size) (by omega) s (pos + f.2)
      go_wp2_with fail
      go_roundw
      case rel => exact ⟨pos + f.2, k + 1, by go_num, by omega, hle, hit2, hbw2, HN⟩
      case measure =>
        simp only [World.iterPos, hit2, hit]
        omega
    · have hnx : ∀ ty, (Instr.next (.pointer (some ⟨w.heap.size, 0, none⟩)) true ty).run Try.prog wr = _ := fun ty => Lib.run_next_end_at wr w.heap.size s pos ty hit hp
      have HE := Lib.hid (count_end HR.out (by omega))
      go_wp2_with fail
      go_ret
      rw [HE.out]
      exact ⟨rfl, hbw⟩

/-- a string's length -/
def strLen : Value → Nat
  | .string s => s.size
  | _ => 0

theorem bl_from (s : ByteArray) (i : Nat) : bl (s.extract i s.size) = (bl s).drop i := by
  unfold bl
  rw [ByteArray.data_extract]
  simp
  rw [List.take_of_length_le]
  rw [List.length_drop, Array.length_toList]
  exact Nat.le_refl _
theorem runes_round0 {l : List UInt8} {acc tot : List Int} (h : tot = acc ++ runesI l) (hp : l ≠ []) : tot = (acc ++ [((firstL l).1 : Int)]) ++ runesI (l.drop (firstL l).2) := by
  rw [h, runesI_step hp]
  simp
theorem runes_end0 {s : ByteArray} {acc tot : List Int} (h : tot = acc ++ runesI (bl s)) (hp : ¬ 0 < s.size) : tot = acc := by
  have : bl s = [] := List.eq_nil_of_length_eq_zero (by rw [bl_len]; omega)
  rw [h, this]
  simp [runesI, runesL_nil]
theorem bl_ne {s : ByteArray} (h : 0 < s.size) : bl s ≠ [] := by
  intro e
  have := bl_len s
  rw [e] at this
  simp at this
  omega
theorem size_from (s : ByteArray) (i : Nat) : (s.extract i s.size).size = s.size - i := by rw [← bl_len, bl_from, List.length_drop, bl_len]

set_option maxHeartbeats 2000000 in
theorem refRunes_any (s : ByteArray) (w : World) (hS : s.size ≤ 1000000) : Calls Try.prog 8 #[.string s] w (RetRn w (runesI (bl s))) := by
  have HT := Lib.hid (show runesI (bl s) = [] ++ runesI (bl s) from rfl)
  generalize ht : runesI (bl s) = tot at HT ⊢
  have HT : Hid (tot = [] ++ runesI (bl s)) := Lib.hid (by rw [ht]; rfl)
  clear ht
  go_enter Try.func8, Try.ntmps8
  go_wp2_with fail
  go_loopw [0, 3] (fun t v wr => ∃ (s' : ByteArray) (m : Nat) (A2 : Option Addr) (c2 : Nat) (acc : List Int), t = .string s' ∧ v = .slice A2 m c2 ∧ m + s'.size ≤ s.size ∧ On wr w.heap.size A2 m c2 acc ∧ Below w.heap.size w wr ∧ Hid (tot = acc ++ runesI (bl s'))) (fun t _ _ => strLen t)
  case atStart => exact ⟨s, 0, none, 0, [], rfl, rfl, by omega, On.nil, Below.refl _ _, HT⟩
  case round =>
    obtain ⟨s', m, A2, c2, acc, rfl, rfl, hm, hO, hbw, HR⟩ := hrel
    have hbl := bl_len s'
    by_cases hp : 0 < s'.size
    · have hw1 := firstL_width (bl s') (bl_ne hp)
      have HN := Lib.hid (runes_round0 HR.out (bl_ne hp))
      rw [← bl_from] at HN
      have HFst := Lib.hid (first_any s' wr hp (by omega))
      have hle : (firstL (bl s')).2 ≤ s'.size := by have := hw1.2.2; omega
      generalize firstL (bl s') = f at *
      have hO3 := hO.below (bel_alloc (Below.refl _ _) (.cells #[.int .i32 (f.1 : Int)] 21))
      have hB3 := Rn.const wr [(f.1 : Int)] #[.int .i32 (f.1 : Int)] 21 (0, 0) 1 rfl rfl
      have hbs := hbw.size
      have hszf := size_from s' f.2
      go_wp2_with fail
      refine HFst.out.mono ?_
      rintro e w1 ⟨rfl, rfl⟩
      go_wp2_with (at_builtin; refine wpList_appR _ rfl rfl rfl hO3 rfl hB3 (m + 1) (acc ++ [(f.1 : Int)]) rfl rfl (by omega) (by simp; omega) ?_; intro A' c' w' ho hb)
      go_roundw
      case rel => exact ⟨s'.extract f.2 s'.size, m + 1, A', c', acc ++ [(f.1 : Int)], by simp, rfl, by omega, ho, (hbw.alloc hbs _).trans hb, HN⟩
      case measure => simp [strLen]; omega
    · have HE := Lib.hid (runes_end0 HR.out hp)
      go_wp2_with fail
      go_ret
      rw [HE.out]
      exact ⟨A2, m, c2, rfl, hO, hbw⟩
end Go.Proofs.Ytleachcokgjocaa
