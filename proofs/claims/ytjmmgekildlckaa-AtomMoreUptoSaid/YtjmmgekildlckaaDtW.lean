/-
  A reader of dates: digits, sign, run, point, offset, zone.
-/
import Derived.Test.YtjmmgekildlckaaDtR
import Derived.Test.YtjmmgekildlckaaDig
namespace Go.Proofs.Ytjmmgekildlckaa
open Go.RowKit Go.Nst
set_option maxRecDepth 100000
set_option linter.unusedVariables false
set_option linter.unusedSimpArgs false

def Rdd (w : World) (g : Nat) (r : RD) : Prop := Blk w g 96 #[.string ⟨r.l.toArray⟩, .bool r.bad]
def RetD (w : World) (g : Nat) (v : Value) (r : RD) (e : Ending) (w' : World) : Prop := e = .returned v ∧ Rdd w' g r ∧ w.grownBy w' (some g)
theorem Rdd.below {w w' : World} {g : Nat} {r : RD} (h : Rdd w g r) (hb : Below w.heap.size w w') : Rdd w' g r := Blk.below h hb (Blk.lt h)
theorem str_drop (l : List UInt8) (k : Nat) : (ByteArray.mk l.toArray).extract k l.length = ⟨(l.drop k).toArray⟩ := by
  have q := bl_from ⟨l.toArray⟩ k
  rw [size_of] at q
  rw [show bl ⟨l.toArray⟩ = l from bl_of l] at q
  rw [← q, bl_mk]
theorem str_take (l : List UInt8) (k : Nat) : (ByteArray.mk l.toArray).extract 0 k = ⟨(l.take k).toArray⟩ := by
  rw [str_upto, bl_of]
set_option maxHeartbeats 4000000 in
theorem rd_digits (g n : Nat) (r : RD) (w : World) (hR : Rdd w g r) (hl : r.l.length ≤ 100000) (hn : n ≤ 9) :
    Calls Try.prog 47 #[.pointer (some ⟨g, 0, none⟩), .int .i64 (n : Int)] w (RetD w g (.int .i64 (rdDig n r).1) (rdDig n r).2) := by
  obtain ⟨l, b⟩ := r
  simp only at hl
  have hg := Blk.lt hR
  have c0 := Blk.cell hR 0
  have c1 := Blk.cell hR 1
  simp at c0 c1
  have hfz := Blk.frozen hR
  have HR := Lib.hid hR
  clear hR
  by_cases h1 : l.length < n
  · have d1 : decide (l.length < n) = true := by simpa using h1
    have HV : Hid (rdDig n ⟨l, b⟩ = (0, ⟨l, true⟩)) := Lib.hid (by unfold rdDig; rw [if_pos h1])
    clear h1
    go_enter Try.func47, Try.ntmps47
    go_wp2_with fail
    go_ret
    rw [HV.out]
    exact ⟨rfl, by have := Blk.set_ HR.out 1 (.bool true); simpa [Rdd] using this, only_setCell (World.grownBy.refl _ _) (.inl rfl) _⟩
  · have d1 : decide (l.length < n) = false := by simp; omega
    have hV0 : rdDig n ⟨l, b⟩ = if (l.take n).all digB then (numL (l.take n), ⟨l.drop n, b⟩) else (0, ⟨l, true⟩) := by unfold rdDig; simp only; rw [if_neg h1]
    have HV := Lib.hid hV0
    clear hV0
    have hsz : (ByteArray.mk l.toArray).size = l.length := size_of l
    have hnl : n ≤ l.length := by omega
    obtain ⟨s0, hs0⟩ : ∃ s0, (ByteArray.mk l.toArray).extract 0 n = s0 := ⟨_, rfl⟩
    have hbl : bl s0 = l.take n := by rw [← hs0, bl_upto, bl_of]
    have hss : s0.size = n := by rw [← bl_len, hbl, List.length_take]; omega
    rw [← hbl] at HV
    have HD : Hid (l.drop n = l.drop n) := rfl
    clear h1
    go_enter Try.func47, Try.ntmps47
    go_wp2_with fail
    have hpow : ∀ k : Nat, k ≤ 9 → (10 : Int) ^ k ≤ 1000000000 := by
      intro k hk
      rcases (by omega : k = 0 ∨ k = 1 ∨ k = 2 ∨ k = 3 ∨ k = 4 ∨ k = 5 ∨ k = 6 ∨ k = 7 ∨ k = 8 ∨ k = 9) with rfl | rfl | rfl | rfl | rfl | rfl | rfl | rfl | rfl | rfl <;> decide
    have HPW := Lib.hid hpow
    clear hpow
    go_loopw [5] (fun v wr => ∃ (pos : Nat), v = .int .i64 (numL ((bl s0).take pos)) ∧ pos ≤ n ∧ Hid (((bl s0).take pos).all digB = true) ∧ wr.heap[w.heap.size]? = some (.stringIter s0 pos) ∧ Below w.heap.size w wr) (fun _ wr => n - wr.iterPos w.heap.size)
    case atStart =>
      refine ⟨0, rfl, by omega, Lib.hid rfl, ?_, bel_alloc (Below.refl _ _) _⟩
      have := World.iter_heap w s0 0
      simpa using this
    case round =>
      obtain ⟨pos, rfl, hps, HA, hit, hbw⟩ := hrel
      have hsz : w.heap.size < wr.heap.size := (Array.getElem?_eq_some_iff.1 hit).1
      have hdl : ((bl s0).take pos).length = pos := by rw [List.length_take, hbl, List.length_take]; omega
      have hb0 := numL_in HA.out
      rw [hdl] at hb0
      have hb1 := HPW.out pos (by omega)
      clear hs0
      by_cases hp : pos < n
      · have hp' : pos < s0.size := by omega
        have hnx : ∀ ty, (Instr.next (.pointer (some ⟨w.heap.size, 0, none⟩)) true ty).run Try.prog wr = _ := fun ty => Lib.run_next_any_at wr w.heap.size s0 pos ty hit hp'
        rw [decode_bl s0 pos hp'] at hnx
        obtain ⟨u, t, hut⟩ := len_cons (l := (bl s0).drop pos) (by rw [List.length_drop, hbl, List.length_take]; omega)
        have hu := u.toNat_lt
        rcases first_dig hut with ⟨hd, hf⟩ | ⟨hd, hf⟩
        · rw [hf] at hnx
          have hd' := hd
          unfold digB at hd'
          simp at hd'
          have t1 : decide (((u.toNat : Nat) : Int) < 48) = false := by simp; omega
          have t2 : decide ((57 : Int) < ((u.toNat : Nat) : Int)) = false := by simp; omega
          have q1 : IntKind.i32.wrap (((u.toNat : Nat) : Int) - 48) = ((u.toNat : Nat) : Int) - 48 := IntWalk.i32_in _ (by omega)
          have q2 : IntKind.i64.wrap (10 * numL ((bl s0).take pos)) = 10 * numL ((bl s0).take pos) := IntWalk.i64_in _ (by omega)
          have q3 : IntKind.i64.wrap (10 * numL ((bl s0).take pos) + (((u.toNat : Nat) : Int) - 48)) = 10 * numL ((bl s0).take pos) + (((u.toNat : Nat) : Int) - 48) := IntWalk.i64_in _ (by omega)
          have q4 : IntKind.i64.wrap (((u.toNat : Nat) : Int) - 48) = ((u.toNat : Nat) : Int) - 48 := IntWalk.i64_in _ (by omega)
          have HN : Hid (numL ((bl s0).take (pos + 1)) = 10 * numL ((bl s0).take pos) + (((u.toNat : Nat) : Int) - 48) ∧ ((bl s0).take (pos + 1)).all digB = true) := Lib.hid (by
            rw [take_snocD hut, numL_snoc, List.all_append, HA.out]
            exact ⟨rfl, by simp [hd]⟩)
          have hit2 := Lib.iterAt_heap wr w.heap.size s0 pos (pos + 1) hit
          have hbw2 := Lib.below_iterAt hbw (k := w.heap.size) (by omega) s0 (pos + 1)
          generalize numL ((bl s0).take pos) = x at *
          clear hut hf hd hd' HA
          go_wp2_with fail
          go_roundw
          case rel => exact ⟨pos + 1, by rw [HN.out.1], by omega, Lib.hid HN.out.2, hit2, hbw2⟩
          case measure =>
            simp only [World.iterPos, hit2, hit]
            omega
        · have HN : Hid ((bl s0).all digB = false) := Lib.hid (by
            have e : bl s0 = (bl s0).take pos ++ u :: t := by rw [← hut, List.take_append_drop]
            rw [e, List.all_append, List.all_cons, hd]
            simp)
          have hbw2 := Lib.below_iterAt hbw (k := w.heap.size) (by omega) s0 (pos + (firstL ((bl s0).drop pos)).2)
          have hR2 := HR.out.below hbw2
          have hfz2 := Blk.frozen hR2
          have e1 := Blk.cell hR2 1
          simp at e1
          have HR2 := Lib.hid hR2
          generalize firstL ((bl s0).drop pos) = f at *
          obtain ⟨fr, fw⟩ := f
          simp only at hf hnx hbw2 hfz2 e1 HR2
          have HF : Hid (rdDig n ⟨l, b⟩ = (0, ⟨l, true⟩)) := Lib.hid (by rw [HV.out, if_neg (by rw [HN.out]; decide)])
          clear hut hd HA hR2
          generalize numL ((bl s0).take pos) = x at *
          by_cases t1 : (fr : Int) < 48
          · have d2 : decide ((fr : Int) < 48) = true := by simpa using t1
            clear hf t1
            go_wp2_with fail
            go_ret
            rw [HF.out]
            exact ⟨rfl, by have := Blk.set_ HR2.out 1 (.bool true); simpa [Rdd] using this, only_setCell (only_of_below hbw2 _) (.inl rfl) _⟩
          · have d2 : decide ((fr : Int) < 48) = false := by simpa using t1
            have d3 : decide ((57 : Int) < (fr : Int)) = true := by simp; omega
            clear hf t1
            go_wp2_with fail
            go_ret
            rw [HF.out]
            exact ⟨rfl, by have := Blk.set_ HR2.out 1 (.bool true); simpa [Rdd] using this, only_setCell (only_of_below hbw2 _) (.inl rfl) _⟩
      · obtain rfl : pos = n := by omega
        have hnx : ∀ ty, (Instr.next (.pointer (some ⟨w.heap.size, 0, none⟩)) true ty).run Try.prog wr = _ := fun ty => Lib.run_next_end_at wr w.heap.size s0 pos ty hit (by omega)
        have hfull : (bl s0).take pos = bl s0 := List.take_of_length_le (by rw [bl_len]; omega)
        rw [hfull] at HA
        have HF : Hid (rdDig pos ⟨l, b⟩ = (numL (bl s0), ⟨l.drop pos, b⟩)) := Lib.hid (by rw [HV.out, if_pos HA.out])
        have HFU := Lib.hid hfull
        clear hfull hb0 hb1
        have hR2 := HR.out.below hbw
        have hfz2 := Blk.frozen hR2
        have e0 := Blk.cell hR2 0
        simp at e0
        have HR2 := Lib.hid hR2
        obtain ⟨s1, hs1⟩ : ∃ s1, (ByteArray.mk l.toArray).extract pos l.length = s1 := ⟨_, rfl⟩
        have HS1 : Hid (Value.string s1 = Value.string ⟨(l.drop pos).toArray⟩) := Lib.hid (by
          rw [← hs1, str_drop])
        rw [HFU.out]
        generalize numL (bl s0) = x at *
        clear hR2 HFU
        go_wp2_with fail
        go_ret
        rw [HF.out]
        exact ⟨rfl, by have := Blk.set_ HR2.out 0 (.string s1); rw [HS1.out] at this; simpa [Rdd, HS1.out] using this, only_setCell (only_of_below hbw _) (.inl rfl) _⟩
theorem index_has (c : UInt8) : ∀ l : List UInt8, (l.contains c = true ∧ 0 ≤ Lib.indexByte l c) ∨ (l.contains c = false ∧ Lib.indexByte l c = -1)
  | [] => .inr ⟨rfl, rfl⟩
  | b :: l => by
    have ih := index_has c l
    by_cases h : b = c
    · subst h
      exact .inl ⟨by simp, by simp [Lib.indexByte]⟩
    · have hb : (b == c) = false := by simpa using h
      have hb2 : (c == b) = false := by simp; exact fun e => h e.symm
      rcases ih with ⟨h1, h2⟩ | ⟨h1, h2⟩
      · refine .inl ⟨by rw [List.contains_cons, hb2, h1]; rfl, ?_⟩
        simp only [Lib.indexByte, hb]
        have : (Lib.indexByte l c == -1) = false := by simp; omega
        simp [this]
        omega
      · refine .inr ⟨by rw [List.contains_cons, hb2, h1]; rfl, ?_⟩
        simp [Lib.indexByte, hb, h2]
set_option maxHeartbeats 4000000 in
theorem rd_sign (g : Nat) (some_ : List UInt8) (r : RD) (w : World) (hR : Rdd w g r) (hl : r.l.length ≤ 100000) (hs : some_.length ≤ 9) :
    Calls Try.prog 48 #[.pointer (some ⟨g, 0, none⟩), .string ⟨some_.toArray⟩] w (RetD w g (.int .u8 ((rdSign some_ r).1.toNat : Int)) (rdSign some_ r).2) := by
  obtain ⟨l, b⟩ := r
  simp only at hl
  have hg := Blk.lt hR
  have c0 := Blk.cell hR 0
  have c1 := Blk.cell hR 1
  simp at c0 c1
  have hfz := Blk.frozen hR
  have HR := Lib.hid hR
  clear hR
  cases l with
  | nil =>
    have HV : Hid (rdSign some_ ⟨[], b⟩ = (0, ⟨[], true⟩)) := rfl
    go_enter Try.func48, Try.ntmps48
    go_wp2_with fail
    go_ret
    rw [HV.out]
    exact ⟨rfl, by have := Blk.set_ HR.out 1 (.bool true); simpa [Rdd] using this, only_setCell (World.grownBy.refl _ _) (.inl rfl) _⟩
  | cons c t =>
    have HX := Lib.hid (fun W => Try.strings_IndexByte ⟨some_.toArray⟩ ((c.toNat : Nat) : Int) W)
    have hc8 : ((c.toNat : Nat) : Int).toNat.toUInt8 = c := by simp
    rw [hc8] at HX
    obtain ⟨S, hS⟩ : ∃ S, ByteArray.mk (c :: t).toArray = S := ⟨_, rfl⟩
    have hsz : S.size = t.length + 1 := by rw [← hS, size_of]; rfl
    have hpos : 0 < S.size := by omega
    have hx0 : ∀ h, S[0]'h = c := by intro h; subst hS; rfl
    have hne1 : ¬ S.toList = [] := by
      intro e
      have := congrArg List.length e
      rw [ByteArray.toList_eq, Array.length_toList] at this
      have h3 : S.size = 0 := this
      omega
    have hne2 : S.toList.isEmpty = false := by
      cases hh : S.toList with
      | nil => exact absurd hh hne1
      | cons a b => rfl
    have HSZ := Lib.hid hsz
    have HS0 := Lib.hid hS
    rw [hS] at c0
    clear hsz hS
    simp only at HX
    rcases index_has c some_ with ⟨h1, h2⟩ | ⟨h1, h2⟩
    · have HV : Hid (rdSign some_ ⟨c :: t, b⟩ = (c, ⟨t, b⟩)) := Lib.hid (sign_of h1)
      have d1 : decide (Lib.indexByte some_ c < 0) = false := by simp; omega
      obtain ⟨s1, hs1⟩ : ∃ s1, S.extract 1 S.size = s1 := ⟨_, rfl⟩
      have HS1 : Hid (s1 = ⟨t.toArray⟩) := Lib.hid (by rw [← hs1, HSZ.out, ← HS0.out]; exact str_drop (c :: t) 1)
      generalize Lib.indexByte some_ c = ix at *
      clear h1 h2
      go_enter Try.func48, Try.ntmps48
      go_wp2_with fail
      (with_reducible refine (HX.out _).mono ?_)
      rintro e w1 ⟨rfl, rfl⟩
      go_wp2_with fail
      go_ret
      rw [HV.out]
      refine ⟨rfl, ?_, only_setCell (World.grownBy.refl _ _) (.inl rfl) _⟩
      have := Blk.set_ HR.out 0 (.string s1)
      rw [HS1.out] at this ⊢
      simpa [Rdd] using this
    · have HV : Hid (rdSign some_ ⟨c :: t, b⟩ = (0, ⟨c :: t, true⟩)) := Lib.hid (by unfold rdSign; simp only; rw [if_neg (by rw [h1]; decide)])
      rw [h2] at HX
      clear h1 h2
      go_enter Try.func48, Try.ntmps48
      go_wp2_with fail
      (with_reducible refine (HX.out _).mono ?_)
      rintro e w1 ⟨rfl, rfl⟩
      go_wp2_with fail
      go_ret
      rw [HV.out]
      exact ⟨rfl, by have := Blk.set_ HR.out 1 (.bool true); simpa [Rdd] using this, only_setCell (World.grownBy.refl _ _) (.inl rfl) _⟩
/-- how many digits come next -/
theorem runL_at {l : List UInt8} : ∀ {pos : Nat}, (l.take pos).all digB = true → pos ≤ l.length → runL l = pos + runL (l.drop pos) := by
  induction l with
  | nil => intro pos _ h; simp at h; subst h; simp [runL]
  | cons c t ih =>
    intro pos h1 h2
    cases pos with
    | zero => simp
    | succ k =>
      simp only [List.take_succ_cons, List.all_cons, Bool.and_eq_true] at h1
      simp only [runL, h1.1, if_true, List.drop_succ_cons]
      rw [ih (pos := k) h1.2 (by simpa using h2)]
      omega
theorem runL_le : ∀ l : List UInt8, runL l ≤ l.length
  | [] => by simp [runL]
  | c :: t => by
    have := runL_le t
    simp only [runL]
    split <;> simp <;> omega
set_option maxHeartbeats 4000000 in
theorem rd_run (g : Nat) (r : RD) (w : World) (hR : Rdd w g r) (hl : r.l.length ≤ 100000) :
    Calls Try.prog 62 #[.pointer (some ⟨g, 0, none⟩)] w fun e w' => e = .returned (.int .i64 (runL r.l : Int)) ∧ Below w.heap.size w w' := by
  obtain ⟨l, b⟩ := r
  simp only at hl ⊢
  have hg := Blk.lt hR
  have c0 := Blk.cell hR 0
  simp at c0
  have hfz := Blk.frozen hR
  have HR := Lib.hid hR
  clear hR
  obtain ⟨s0, hs0⟩ : ∃ s0, ByteArray.mk l.toArray = s0 := ⟨_, rfl⟩
  have hbl : bl s0 = l := by rw [← hs0, bl_of]
  have hss : s0.size = l.length := by rw [← hs0, size_of]
  have HRL : Hid (runL l = runL (bl s0)) := Lib.hid (by rw [hbl])
  rw [hs0] at c0
  have hcl : ((bl s0).length : Int) = (s0.size : Int) := by rw [bl_len]
  generalize runL l = out at *
  go_enter Try.func62, Try.ntmps62
  go_wp2_with fail
  go_loopw [] (fun wr => ∃ (pos : Nat), pos ≤ s0.size ∧ Hid (((bl s0).take pos).all digB = true) ∧ wr.heap[w.heap.size]? = some (.stringIter s0 pos) ∧ Below w.heap.size w wr) (fun wr => s0.size - wr.iterPos w.heap.size)
  case atStart =>
    refine ⟨0, by omega, Lib.hid rfl, ?_, bel_alloc (Below.refl _ _) _⟩
    have := World.iter_heap w s0 0
    simpa using this
  case round =>
    obtain ⟨pos, hps, HA, hit, hbw⟩ := hrel
    have hsz : w.heap.size < wr.heap.size := (Array.getElem?_eq_some_iff.1 hit).1
    have HO := Lib.hid (runL_at HA.out (by rw [bl_len]; exact hps))
    by_cases hp : pos < s0.size
    · have hnx : ∀ ty, (Instr.next (.pointer (some ⟨w.heap.size, 0, none⟩)) true ty).run Try.prog wr = _ := fun ty => Lib.run_next_any_at wr w.heap.size s0 pos ty hit hp
      rw [decode_bl s0 pos hp] at hnx
      obtain ⟨u, t, hut⟩ := len_cons (l := (bl s0).drop pos) (by rw [List.length_drop, bl_len]; omega)
      have hu := u.toNat_lt
      rcases first_dig hut with ⟨hd, hf⟩ | ⟨hd, hf⟩
      · rw [hf] at hnx
        have hd' := hd
        unfold digB at hd'
        simp at hd'
        have t1 : decide (((u.toNat : Nat) : Int) < 48) = false := by simp; omega
        have t2 : decide ((57 : Int) < ((u.toNat : Nat) : Int)) = false := by simp; omega
        have HN : Hid (((bl s0).take (pos + 1)).all digB = true) := Lib.hid (by
          rw [take_snocD hut, List.all_append, HA.out]
          simp [hd])
        have hit2 := Lib.iterAt_heap wr w.heap.size s0 pos (pos + 1) hit
        have hbw2 := Lib.below_iterAt hbw (k := w.heap.size) (by omega) s0 (pos + 1)
        clear hut hf hd hd' HA HO
        go_wp2_with fail
        go_roundw
        case rel => exact ⟨pos + 1, by omega, HN, hit2, hbw2⟩
        case measure =>
          simp only [World.iterPos, hit2, hit]
          omega
      · have HN : Hid (out = pos) := Lib.hid (by
          rw [HRL.out, HO.out, hut]
          simp [runL, hd])
        have hbw2 := Lib.below_iterAt hbw (k := w.heap.size) (by omega) s0 (pos + (firstL ((bl s0).drop pos)).2)
        generalize firstL ((bl s0).drop pos) = f at *
        obtain ⟨fr, fw⟩ := f
        simp only at hf hnx hbw2
        clear hut hd HA HO
        by_cases t1 : (fr : Int) < 48
        · have d2 : decide ((fr : Int) < 48) = true := by simpa using t1
          clear hf t1
          go_wp2_with fail
          go_ret
          rw [HN.out]
          exact ⟨rfl, hbw2⟩
        · have d2 : decide ((fr : Int) < 48) = false := by simpa using t1
          have d3 : decide ((57 : Int) < (fr : Int)) = true := by simp; omega
          clear hf t1
          go_wp2_with fail
          go_ret
          rw [HN.out]
          exact ⟨rfl, hbw2⟩
    · have hnx : ∀ ty, (Instr.next (.pointer (some ⟨w.heap.size, 0, none⟩)) true ty).run Try.prog wr = _ := fun ty => Lib.run_next_end_at wr w.heap.size s0 pos ty hit hp
      have HN : Hid (out = s0.size) := Lib.hid (by
        rw [HRL.out, HO.out, List.drop_of_length_le (by rw [bl_len]; omega)]
        simp [runL]
        omega)
      have e0 := (hbw.cell (p := ⟨g, 0, none⟩) hg).trans c0
      clear HA HO hcl
      go_wp2_with fail
      go_ret
      rw [HN.out, hss]
      exact ⟨rfl, hbw⟩
theorem prefix_dot (l : List UInt8) : Lib.hasPrefix l [46] = decide (l.head? = some 46) := by
  cases l with
  | nil => rfl
  | cons c t =>
    unfold Lib.hasPrefix
    by_cases h : c = 46 <;> simp [List.isPrefixOf, h]
    exact fun e => h e.symm
set_option maxHeartbeats 4000000 in
theorem rd_point (g : Nat) (r : RD) (w : World) (hR : Rdd w g r) (hl : r.l.length ≤ 100000) :
    Calls Try.prog 49 #[.pointer (some ⟨g, 0, none⟩)] w fun e w' => e = .returned (.tuple #[]) ∧ Rdd w' g (rdPoint r) ∧ w.grownBy w' (some g) := by
  obtain ⟨l, b⟩ := r
  simp only at hl
  have hg := Blk.lt hR
  have c0 := Blk.cell hR 0
  simp at c0
  have hfz := Blk.frozen hR
  have HX := Lib.hid (fun W => Try.strings_HasPrefix ⟨l.toArray⟩ ⟨#[46]⟩ W)
  have hpd := prefix_dot l
  by_cases hh : l.head? = some 46
  · obtain ⟨t, rfl⟩ : ∃ t, l = 46 :: t := by
      cases l with
      | nil => simp at hh
      | cons c t => simp at hh; exact ⟨t, by rw [hh]⟩
    have HX2 := Lib.hid (fun W => (HX.out W).mono fun e w' h => (show e = .returned (.bool true) ∧ w' = W by
      have := h.1
      rw [show Lib.hasPrefix (46 :: t) [46] = true by rw [hpd]; simp] at this
      exact ⟨this, h.2⟩))
    have HV : Hid (rdPoint ⟨46 :: t, b⟩ = ⟨t.drop (runL t), b || !(decide (1 ≤ runL t) && decide (runL t ≤ 9))⟩) := Lib.hid (by unfold rdPoint; rw [if_pos hh]; rfl)
    have hrl := runL_le t
    obtain ⟨S, hS⟩ : ∃ S, ByteArray.mk (46 :: t).toArray = S := ⟨_, rfl⟩
    have hsz : S.size = t.length + 1 := by rw [← hS, size_of]; rfl
    have hpos : 1 ≤ S.size := by omega
    obtain ⟨s1, hs1⟩ : ∃ s1, S.extract 1 S.size = s1 := ⟨_, rfl⟩
    have e1 : s1 = ⟨t.toArray⟩ := by rw [← hs1, hsz, ← hS]; exact str_drop (46 :: t) 1
    have HSZ := Lib.hid hsz
    rw [hS] at c0 HX2
    have HR := Lib.hid hR
    clear hR HX hpd hh hsz
    go_enter Try.func49, Try.ntmps49
    go_wp2_with fail
    (with_reducible refine (HX2.out _).mono ?_)
    rintro e w1 ⟨rfl, rfl⟩
    have hR2 : Rdd (w1.setCell ⟨g, 0, none⟩ (.string s1)) g ⟨t, b⟩ := by
      have := Blk.set_ HR.out 0 (.string s1)
      rw [e1] at this ⊢
      simpa [Rdd] using this
    have hl2 : t.length ≤ 100000 := by simp at hl; omega
    have HRN := Lib.hid (rd_run g ⟨t, b⟩ _ hR2 hl2)
    simp only at HRN
    have HW := Lib.hid (fun W => within_any ((runL t : Nat) : Int) 1 9 W)
    have hwb : (decide ((1 : Int) ≤ ((runL t : Nat) : Int)) && decide (((runL t : Nat) : Int) ≤ 9)) = (decide (1 ≤ runL t) && decide (runL t ≤ 9)) := by
      have h1 : ((1 : Int) ≤ ((runL t : Nat) : Int)) ↔ 1 ≤ runL t := by omega
      have h2 : (((runL t : Nat) : Int) ≤ 9) ↔ runL t ≤ 9 := by omega
      simp only [h1, h2]
    rw [hwb] at HW
    have HT1 := Lib.hid e1
    generalize (decide (1 ≤ runL t) && decide (runL t ≤ 9)) = okw at *
    obtain ⟨k, hk⟩ : ∃ k, runL t = k := ⟨_, rfl⟩
    rw [hk] at HRN HW HV hrl
    clear hk hwb hS e1
    go_wp2_with fail
    (with_reducible refine (HRN.out).mono ?_)
    rintro e w2 ⟨rfl, hb2⟩
    have hR3 := hR2.below hb2
    have G2 : w1.grownBy w2 (some g) := only_trans (only_setCell (World.grownBy.refl _ _) (.inl rfl) _) (only_of_below hb2 _)
    have f1 := Blk.cell hR3 1
    have f0 := Blk.cell hR3 0
    simp at f1 f0
    have hfz3 := Blk.frozen hR3
    have hlt3 := Blk.lt hR3
    have HR3 := Lib.hid hR3
    clear hR2 hR3 hb2 HRN c0 hfz HR hg
    have hs1z : s1.size = t.length := by rw [HT1.out, size_of]
    have hk1 : k ≤ s1.size := by omega
    obtain ⟨s2, hs2⟩ : ∃ s2, s1.extract k s1.size = s2 := ⟨_, rfl⟩
    have HS2 : Hid (s2 = ⟨(t.drop k).toArray⟩) := Lib.hid (by rw [← hs2, hs1z, HT1.out]; exact str_drop t k)
    rw [← HT1.out] at f0
    clear hs1z
    have fin : ∀ bb, Rdd ((w2.setCell ⟨g, 1, none⟩ (.bool bb)).setCell ⟨g, 0, none⟩ (.string s2)) g ⟨t.drop k, bb⟩ := by
      intro bb
      have := Blk.set_ (Blk.set_ HR3.out 1 (.bool bb)) 0 (.string s2)
      rw [HS2.out] at this ⊢
      simpa [Rdd] using this
    have FIN := Lib.hid fin
    have G3 : ∀ bb, w1.grownBy ((w2.setCell ⟨g, 1, none⟩ (.bool bb)).setCell ⟨g, 0, none⟩ (.string s2)) (some g) := fun bb => only_setCell (only_setCell G2 (.inl rfl) _) (.inl rfl) _
    have G4 := Lib.hid G3
    clear fin G3 G2
    cases b with
    | true =>
      go_wp2_with fail
      go_end0
      rw [HV.out]
      exact ⟨rfl, by simpa using FIN.out true, G4.out true⟩
    | false =>
      go_wp2_with fail
      (with_reducible refine (HW.out _).mono ?_)
      rintro e w3 ⟨rfl, rfl⟩
      cases okw with
      | true =>
        go_wp2_with fail
        go_end0
        rw [HV.out]
        exact ⟨rfl, by simpa using FIN.out false, G4.out false⟩
      | false =>
        go_wp2_with fail
        go_end0
        rw [HV.out]
        exact ⟨rfl, by simpa using FIN.out true, G4.out true⟩
  · have HX2 := Lib.hid (fun W => (HX.out W).mono fun e w' h => (show e = .returned (.bool false) ∧ w' = W by
      have := h.1
      rw [show Lib.hasPrefix l [46] = false by rw [hpd]; simp [hh]] at this
      exact ⟨this, h.2⟩))
    have HV : Hid (rdPoint ⟨l, b⟩ = ⟨l, b⟩) := Lib.hid (by unfold rdPoint; rw [if_neg hh])
    have HR := Lib.hid hR
    clear hR HX hpd hh
    go_enter Try.func49, Try.ntmps49
    go_wp2_with fail
    (with_reducible refine (HX2.out _).mono ?_)
    rintro e w1 ⟨rfl, rfl⟩
    go_wp2_with fail
    (try simp only [Exit.inBlock, Exit.then]); refine bodyPost_ret (results_none rfl _ _ _) rfl ?_
    rw [HV.out]
    exact ⟨rfl, HR.out, World.grownBy.refl _ _⟩
end Go.Proofs.Ytjmmgekildlckaa
