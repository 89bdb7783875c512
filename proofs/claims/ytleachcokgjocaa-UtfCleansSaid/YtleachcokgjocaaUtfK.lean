/-
  Fold, the reference's Fold; Cut, the reference's Cut.
-/
import Derived.Test.YtleachcokgjocaaUtfJ
import Derived.IntWalk
namespace Go.Proofs.Ytleachcokgjocaa
open Go.RowKit Go.Nst
set_option maxRecDepth 100000
set_option linter.unusedVariables false
set_option linter.unusedSimpArgs false

/-- the folded text -/
def foldT (l : List UInt8) : List UInt8 := putR ((runesI l).map foldC)
theorem fold_round {l : List UInt8} {pos : Nat} {acc fin : List Int} (h : fin = acc ++ (runesI (l.drop pos)).map foldC) (hp : pos < l.length) : fin = (acc ++ [foldC ((firstL (l.drop pos)).1 : Int)]) ++ (runesI (l.drop (pos + (firstL (l.drop pos)).2))).map foldC := by
  rw [h, runesI_step (drop_ne hp), List.drop_drop]
  simp
theorem fold_end {l : List UInt8} {pos : Nat} {acc fin : List Int} (h : fin = acc ++ (runesI (l.drop pos)).map foldC) (hp : ¬ pos < l.length) : fin = acc := by
  rw [h, List.drop_of_length_le (by omega)]
  simp [runesI, runesL_nil]
theorem foldC_bd {c : Int} (h0 : 0 ≤ c) (h1 : c ≤ 1114111) : 0 ≤ foldC c ∧ foldC c ≤ 1114111 := by unfold foldC; (repeat' split) <;> omega

set_option maxHeartbeats 4000000 in
theorem fold_any5 (s : ByteArray) (w : World) (hS : s.size ≤ 1000000) : Calls Try.prog 19 #[.string s] w (RetS w (foldT (bl s))) := by
  have hbl := bl_len s
  unfold foldT
  have HT := Lib.hid (show (runesI (bl s)).map foldC = [] ++ (runesI ((bl s).drop 0)).map foldC from rfl)
  generalize (runesI (bl s)).map foldC = fin at HT ⊢
  go_enter Try.func19, Try.ntmps19
  go_wp2_with fail
  go_loopw [] (fun wr => ∃ (pos : Nat) (out : List Int), pos ≤ s.size ∧ out.length ≤ pos ∧ Bd wr w.heap.size w.heap.size (putR out) ∧ wr.heap[w.heap.size + 1]? = some (.stringIter s pos) ∧ Below w.heap.size w wr ∧ Hid (fin = out ++ (runesI ((bl s).drop pos)).map foldC)) (fun wr => s.size - wr.iterPos (w.heap.size + 1))
  case atStart =>
    refine ⟨0, [], by omega, by simp, (Bd.fresh w).alloc _, ?_, bel_alloc (bel_alloc (Below.refl _ _) _) _, HT⟩
    have := World.iter_heap (w.alloc (.cells #[.pointer none, .slice none 0 0] 40)) s 0
    simpa using this
  case round =>
    obtain ⟨pos, out, hps, hol, hbd, hit, hbw, HR⟩ := hrel
    have hsz : w.heap.size + 1 < wr.heap.size := (Array.getElem?_eq_some_iff.1 hit).1
    by_cases hp : pos < s.size
    · have hnx : ∀ ty, (Instr.next (.pointer (some ⟨w.heap.size + 1, 0, none⟩)) true ty).run Try.prog wr = _ := fun ty => Lib.run_next_any_at wr (w.heap.size + 1) s pos ty hit hp
      have hw1 := firstL_width ((bl s).drop pos) (drop_ne (by omega))
      have hr1 := (firstL_rune ((bl s).drop pos)).1
      have HN := Lib.hid (fold_round HR.out (by omega))
      have hle : pos + (firstL ((bl s).drop pos)).2 ≤ s.size := by have := hw1.2.2; rw [List.length_drop, hbl] at this; omega
      rw [decode_bl s pos hp] at hnx
      generalize firstL ((bl s).drop pos) = f at *
      have hit2 := Lib.iterAt_heap wr (w.heap.size + 1) s pos (pos + f.2) hit
      have hbw2 := Lib.below_iterAt hbw (k := w.heap.size + 1) (by omega) s (pos + f.2)
      have hbd2 : Bd (wr.iterAt (w.heap.size + 1) s (pos + f.2)) w.heap.size w.heap.size (putR out) := Lib.IsBuilderF.iterAt hbd hit (pos + f.2)
      have hsz2 : w.heap.size + 1 < (wr.iterAt (w.heap.size + 1) s (pos + f.2)).heap.size := by rw [Lib.iterAt_size]; omega
      have hpl := putR_len out
      have hfb := foldC_bd (c := (f.1 : Int)) (by omega) (by omega)
      have HC := Lib.hid (fold5_any (f.1 : Int) (wr.iterAt (w.heap.size + 1) s (pos + f.2)) (by omega) (by omega))
      generalize foldC (f.1 : Int) = z at *
      have HW := Lib.hid (writeRune_k w.heap.size w.heap.size (putR out) z (by omega) (by omega) (wr.iterAt (w.heap.size + 1) s (pos + f.2)) hbd2 (by omega) (by omega))
      rw [← putR_snoc] at HW
      go_wp2_with fail
      refine HC.out.mono ?_
      rintro e w1 ⟨rfl, rfl⟩
      go_wp2_with fail
      refine HW.out.mono ?_
      rintro e w1 ⟨rfl, hbd3, hb3, hk3⟩
      have hit3 := Lib.OthersKept.iter hk3 hit2 (by omega)
      go_wp2_with fail
      go_roundw
      case rel => exact ⟨pos + f.2, out ++ [z], hle, by simp; omega, hbd3, hit3, hbw2.trans hb3, HN⟩
      case measure =>
        simp only [World.iterPos, hit3, hit]
        omega
    · have hnx : ∀ ty, (Instr.next (.pointer (some ⟨w.heap.size + 1, 0, none⟩)) true ty).run Try.prog wr = _ := fun ty => Lib.run_next_end_at wr (w.heap.size + 1) s pos ty hit hp
      have HE : Hid (fin = out) := Lib.hid (fold_end HR.out (by omega))
      have HC := Lib.hid (bString_k w.heap.size w.heap.size (putR out) wr hbd (by omega))
      go_wp2_with fail
      refine HC.out.mono ?_
      rintro e w1 ⟨rfl, _, hb1, _⟩
      go_wp2_with fail
      go_ret
      rw [HE.out]
      exact ⟨rfl, hbw.trans hb1⟩

/-- the first k are folded -/
def foldK (l : List Int) (k : Nat) : List Int := (l.take k).map foldC ++ l.drop k
theorem foldK_get {l : List Int} {k : Nat} {z : Int} (hz : l[k]? = some z) : (foldK l k)[k]? = some z := by
  have hk := (List.getElem?_eq_some_iff.1 hz).1
  unfold foldK
  rw [List.getElem?_append_right (by simp; omega)]
  simp
  rw [show k - min k l.length = 0 by omega]
  simpa using hz
theorem foldK_set {l : List Int} {k : Nat} {z : Int} (hz : l[k]? = some z) : (foldK l k).set k (foldC z) = foldK l (k + 1) := by
  have hk := (List.getElem?_eq_some_iff.1 hz).1
  unfold foldK
  rw [List.set_append_right _ _ (by simp; omega)]
  have e1 : k - ((l.take k).map foldC).length = 0 := by simp; omega
  have e2 : l.drop k = z :: l.drop (k + 1) := by rw [List.drop_eq_getElem_cons hk, (List.getElem?_eq_some_iff.1 hz).2]
  rw [e1, e2, List.take_add_one, hz]
  simp
theorem foldK_all {l : List Int} {k : Nat} (h : l.length ≤ k) : foldK l k = l.map foldC := by
  unfold foldK
  rw [List.take_of_length_le h, List.drop_of_length_le h]
  simp
theorem foldK_len (l : List Int) (k : Nat) : (foldK l k).length = l.length := by unfold foldK; simp; omega
theorem map_32 (l : List UInt8) : I32 ((runesI l).map foldC) := ok_32 (foldC_ok _ (runes_ok l))

set_option maxHeartbeats 4000000 in
theorem refFold_any5 (s : ByteArray) (w : World) (hS : s.size ≤ 100000) : Calls Try.prog 21 #[.string s] w (RetS w (foldT (bl s))) := by
  have hbl := bl_len s
  have hrl := runesI_le (bl s)
  have hok := runes_ok (bl s)
  unfold foldT
  have HI := Lib.hid (map_32 (bl s))
  have HRN := Lib.hid (refRunes_any s w (by omega))
  generalize hrs : runesI (bl s) = rs at *
  have HOK := Lib.hid hok
  clear hrs hok
  go_enter Try.func21, Try.ntmps21
  go_wp2_with fail
  refine HRN.out.mono ?_
  rintro e w1 ⟨A1, n1, c1, rfl, hO1, hb1⟩
  have hlen := hO1.rn.len
  go_wp2_with fail
  go_loopw [4] (fun i wr => ∃ (k : Nat), i = .int .i64 (k : Int) ∧ k ≤ n1 ∧ On wr w.heap.size A1 n1 c1 (foldK rs k) ∧ Below w.heap.size w wr) (fun i _ => n1 - (intOf i).toNat)
  case atStart => exact ⟨0, rfl, by omega, by simpa [foldK] using hO1, hb1⟩
  case round =>
    obtain ⟨k, rfl, hk, hO, hbw⟩ := hrel
    by_cases hlt : k < n1
    · obtain ⟨g, rfl, hg1, hg2, hfz⟩ := hO.where_ (by omega)
      have hzz : rs[k]? = some (rs[k]'(by omega)) := List.getElem?_eq_getElem (by omega)
      obtain ⟨z, hz0⟩ : ∃ z, rs[k]'(by omega) = z := ⟨_, rfl⟩
      rw [hz0] at hzz
      have HZ := Lib.hid hzz
      have hzb := HOK.out z (List.mem_of_getElem? hzz)
      clear hz0 hzz
      obtain ⟨z', b', off', e1, hz', _, hc⟩ := Rn.at hO.rn hlt
      have e2 := foldK_get HZ.out
      rw [hz'.out] at e2
      injection e2 with e2
      subst e2
      injection e1 with e1
      injection e1 with e3 e4
      subst e3
      subst e4
      rw [Nat.zero_add] at hc
      have hf1 := hfz k
      have HN := Lib.hid (hO.set_ rfl hlt (foldC z'))
      rw [foldK_set HZ.out] at HN
      have HC := Lib.hid (fun W => refold_any z' W (by omega) (by omega))
      generalize foldC z' = y at *
      clear hfz
      go_wp2_with fail
      refine (HC.out _).mono ?_
      rintro e w2 ⟨rfl, rfl⟩
      go_wp2_with fail
      go_roundw
      case rel => exact ⟨k + 1, by go_num, by omega, HN.out, hbw.setCell (p := ⟨g, k, none⟩) hg1 _⟩
      case measure => simp [intOf]; omega
    · have HE := Lib.hid (foldK_all (l := rs) (k := k) (by omega))
      rw [HE.out] at hO
      have HC := Lib.hid (refPut5_any A1 n1 c1 _ wr hO.rn HI.out (by omega))
      go_wp2_with fail
      refine HC.out.mono ?_
      rintro e w2 ⟨rfl, hb2⟩
      go_wp2_with fail
      go_ret
      exact ⟨rfl, bel_step hbw hb2⟩

/-- the beginning of a text -/
def cutT (l : List UInt8) (n : Int) : List UInt8 := l.take (cutL l n)
theorem bl_upto (s : ByteArray) (k : Nat) : bl (s.extract 0 k) = (bl s).take k := by
  unfold bl
  rw [ByteArray.data_extract]
  simp
theorem str_upto (s : ByteArray) (k : Nat) : s.extract 0 k = ⟨((bl s).take k).toArray⟩ := by rw [← bl_upto, bl_mk]
theorem cut_more {l : List UInt8} {k fin : Nat} {n : Int} (h : fin = k + cutL (l.drop k) (n - k)) (hk : k < l.length) (hm : (k : Int) + (firstL (l.drop k)).2 ≤ n) : fin = (k + (firstL (l.drop k)).2) + cutL (l.drop (k + (firstL (l.drop k)).2)) (n - ((k + (firstL (l.drop k)).2 : Nat) : Int)) := by
  rw [h, cutL_step _ _ (drop_ne hk), if_pos (by omega), List.drop_drop]
  have : n - (k : Int) - ((firstL (l.drop k)).2 : Int) = n - ((k + (firstL (l.drop k)).2 : Nat) : Int) := by omega
  rw [this]
  omega
theorem cut_stop {l : List UInt8} {k fin : Nat} {n : Int} (h : fin = k + cutL (l.drop k) (n - k)) (hk : k < l.length) (hm : n < (k : Int) + (firstL (l.drop k)).2) : fin = k := by
  rw [h, cutL_step _ _ (drop_ne hk), if_neg (by omega)]
  omega
theorem cut_done {l : List UInt8} {k fin : Nat} {n : Int} (h : fin = k + cutL (l.drop k) (n - k)) (hk : ¬ k < l.length) : fin = k := by
  rw [h, List.drop_of_length_le (by omega), cutL_nil]
  omega

set_option maxHeartbeats 4000000 in
theorem refCut_any (s : ByteArray) (n : Int) (w : World) (hS : s.size ≤ 1000000) (h0 : -9223372036854775808 ≤ n) (h1 : n ≤ 9223372036854775807) : Calls Try.prog 23 #[.string s, .int .i64 n] w fun e w' => e = .returned (.string ⟨(cutT (bl s) n).toArray⟩) ∧ w = w' := by
  have hbl := bl_len s
  have HF : ∃ fin, cutL (bl s) n = fin := ⟨_, rfl⟩
  obtain ⟨fin, hfin⟩ := HF
  have HT : Hid (fin = 0 + cutL ((bl s).drop 0) (n - ((0 : Nat) : Int))) := Lib.hid (by rw [← hfin]; simp)
  have HV : Hid (Value.string ⟨(cutT (bl s) n).toArray⟩ = Value.string (s.extract 0 fin)) := Lib.hid (by rw [str_upto, ← hfin]; rfl)
  clear hfin
  go_enter Try.func23, Try.ntmps23
  go_wp2_with fail
  go_loop [5] (fun i => ∃ (k : Nat), i = .int .i64 (k : Int) ∧ k ≤ s.size ∧ (k = 0 ∨ (k : Int) ≤ n) ∧ Hid (fin = k + cutL ((bl s).drop k) (n - (k : Int)))) (fun i => s.size - (intOf i).toNat)
  case atStart => exact ⟨0, rfl, by omega, .inl rfl, HT⟩
  case round =>
    obtain ⟨k, rfl, hk, hkn, HR⟩ := hrel
    by_cases hp : k < s.size
    · have hszf := size_from s k
      have hw1 := firstL_width ((bl s).drop k) (drop_ne (by omega))
      have HFst := Lib.hid (first_any (s.extract k s.size) w (by omega) (by omega))
      rw [bl_from] at HFst
      have HM := Lib.hid (cut_more HR.out (by omega))
      have HS := Lib.hid (cut_stop HR.out (by omega))
      have hle : k + (firstL ((bl s).drop k)).2 ≤ s.size := by have := hw1.2.2; rw [List.length_drop, hbl] at this; omega
      generalize firstL ((bl s).drop k) = f at *
      have hsub : IntKind.i64.wrap (n - (k : Int)) = n - (k : Int) := IntWalk.i64_in _ (by omega)
      by_cases hm : (k : Int) + f.2 ≤ n
      · have HN := Lib.hid (HM.out hm)
        have d1 : decide (n - (k : Int) < (f.2 : Int)) = false := by simp; omega
        clear HM HS
        go_wp2_with fail
        refine HFst.out.mono ?_
        rintro e w1 ⟨rfl, rfl⟩
        go_wp2_with fail
        go_round
        case rel => exact ⟨k + f.2, by go_num, hle, .inr (by omega), HN⟩
        case measure => simp [intOf]; omega
      · have HN := Lib.hid (HS.out (by omega))
        have d1 : decide (n - (k : Int) < (f.2 : Int)) = true := by simp; omega
        clear HM HS
        go_wp2_with fail
        refine HFst.out.mono ?_
        rintro e w1 ⟨rfl, rfl⟩
        go_wp2_with fail
        go_ret
        rw [HV.out, HN.out]
        simp
    · have HN := Lib.hid (cut_done HR.out (by omega))
      go_wp2_with fail
      go_ret
      rw [HV.out, HN.out]
      simp

set_option maxHeartbeats 4000000 in
theorem cut_any (s : ByteArray) (n : Int) (w : World) (hS : s.size ≤ 1000000) (h0 : -9223372036854775808 ≤ n) (h1 : n ≤ 9223372036854775807) : Calls Try.prog 22 #[.string s, .int .i64 n] w (RetS w (cutT (bl s) n)) := by
  have hbl := bl_len s
  have HF : ∃ fin, cutL (bl s) n = fin := ⟨_, rfl⟩
  obtain ⟨fin, hfin⟩ := HF
  have HT : Hid (fin = 0 + cutL ((bl s).drop 0) (n - ((0 : Nat) : Int))) := Lib.hid (by rw [← hfin]; simp)
  have HV : Hid (Value.string ⟨(cutT (bl s) n).toArray⟩ = Value.string (s.extract 0 fin)) := Lib.hid (by rw [str_upto, ← hfin]; rfl)
  clear hfin
  go_enter Try.func22, Try.ntmps22
  go_wp2_with fail
  go_loopw [5] (fun v wr => ∃ (pos e : Nat), v = .int .i64 (e : Int) ∧ pos ≤ s.size ∧ e ≤ pos ∧ wr.heap[w.heap.size]? = some (.stringIter s pos) ∧ Below w.heap.size w wr ∧ (e = pos ∧ pos = 0 ∨ (e : Int) ≤ n ∧ e < s.size ∧ pos = e + (firstL ((bl s).drop e)).2) ∧ Hid (fin = e + cutL ((bl s).drop e) (n - (e : Int)))) (fun _ wr => s.size - wr.iterPos w.heap.size)
  case atStart =>
    refine ⟨0, 0, rfl, by omega, by omega, ?_, bel_alloc (Below.refl _ _) _, .inl ⟨rfl, rfl⟩, HT⟩
    have := World.iter_heap w s 0
    simpa using this
  case round =>
    obtain ⟨pos, k, rfl, hps, hek, hit, hbw, hst, HR⟩ := hrel
    have hsz : w.heap.size < wr.heap.size := (Array.getElem?_eq_some_iff.1 hit).1
    have HST := Lib.hid hst
    clear hst
    by_cases hp : pos < s.size
    · have hnx : ∀ ty, (Instr.next (.pointer (some ⟨w.heap.size, 0, none⟩)) true ty).run Try.prog wr = _ := fun ty => Lib.run_next_any_at wr w.heap.size s pos ty hit hp
      have hw1 := firstL_width ((bl s).drop pos) (drop_ne (by omega))
      have hle : pos + (firstL ((bl s).drop pos)).2 ≤ s.size := by have := hw1.2.2; rw [List.length_drop, hbl] at this; omega
      rw [decode_bl s pos hp] at hnx
      by_cases hn : n < (pos : Int)
      · have HE : Hid (fin = k) := by
          rcases HST.out with ⟨e1, e2⟩ | ⟨e1, e2, e3⟩
          · subst e2; subst e1; exact Lib.hid (cut_stop HR.out (by omega) (by simp at *; omega))
          · exact Lib.hid (cut_stop HR.out (by omega) (by omega))
        have d2 : decide ((s.size : Int) ≤ n) = false := by simp; omega
        generalize firstL ((bl s).drop pos) = f at *
        have hbw2 := Lib.below_iterAt hbw (k := w.heap.size) (by omega) s (pos + f.2)
        go_wp2_with fail
        go_ret
        rw [HE.out] at HV
        refine ⟨?_, hbw2⟩
        rw [HV.out]
        simp
      · have HN : Hid (fin = pos + cutL ((bl s).drop pos) (n - (pos : Int))) := by
          rcases HST.out with ⟨e1, e2⟩ | ⟨e1, e2, e3⟩
          · rw [e1] at HR; exact HR
          · subst e3; exact Lib.hid (cut_more HR.out (by omega) (by omega))
        generalize hf : firstL ((bl s).drop pos) = f at *
        have HF2 : Hid ((pos : Int) ≤ n ∧ pos < s.size ∧ pos + f.2 = pos + (firstL ((bl s).drop pos)).2) := Lib.hid ⟨by omega, hp, by rw [hf]⟩
        clear hf
        have hit2 := Lib.iterAt_heap wr w.heap.size s pos (pos + f.2) hit
        have hbw2 := Lib.below_iterAt hbw (k := w.heap.size) (by omega) s (pos + f.2)
        go_wp2_with fail
        go_roundw
        case rel => exact ⟨pos + f.2, pos, rfl, hle, by omega, hit2, hbw2, .inr HF2.out, HN⟩
        case measure =>
          simp only [World.iterPos, hit2, hit]
          omega
    · have hnx : ∀ ty, (Instr.next (.pointer (some ⟨w.heap.size, 0, none⟩)) true ty).run Try.prog wr = _ := fun ty => Lib.run_next_end_at wr w.heap.size s pos ty hit hp
      by_cases hn : (s.size : Int) ≤ n
      · have HE : Hid (fin = s.size) := by
          rcases HST.out with ⟨e1, e2⟩ | ⟨e1, e2, e3⟩
          · rw [e1] at HR; rw [show s.size = pos by omega]; exact Lib.hid (cut_done HR.out (by omega))
          · have := cut_more HR.out (by omega) (by omega)
            rw [← e3] at this
            rw [show s.size = pos by omega]; exact Lib.hid (cut_done this (by omega))
        go_wp2_with fail
        go_ret
        rw [HE.out] at HV
        refine ⟨?_, hbw⟩
        rw [HV.out]
        simp
      · have HE : Hid (fin = k) := by
          rcases HST.out with ⟨e1, e2⟩ | ⟨e1, e2, e3⟩
          · exact Lib.hid (cut_done HR.out (by omega))
          · exact Lib.hid (cut_stop HR.out (by omega) (by omega))
        have d2 : decide ((s.size : Int) ≤ n) = false := by simp; omega
        go_wp2_with fail
        go_ret
        rw [HE.out] at HV
        refine ⟨?_, hbw⟩
        rw [HV.out]
        simp
end Go.Proofs.Ytleachcokgjocaa
