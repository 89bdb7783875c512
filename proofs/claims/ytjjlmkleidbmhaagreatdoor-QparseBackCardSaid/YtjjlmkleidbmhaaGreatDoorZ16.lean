/-
  Queries' texts and what they lean on, part 16: only what the claims need.
-/
import Derived.Test.YtjjlmkleidbmhaaGreatDoorZ12
import Derived.Test.YtjjlmkleidbmhaaGreatDoorZ11
import Derived.BigQuiet
section
namespace Go.Proofs.YtjjlmkleidbmhaaGreatDoor
open Go.RowKit Go.Nst
set_option maxRecDepth 100000
set_option linter.unusedVariables false
set_option linter.unusedSimpArgs false

def Rdd (w : World) (g : Nat) (r : RD) : Prop := Blk w g 151 #[.string ⟨r.l.toArray⟩, .bool r.bad]
def RetD (w : World) (g : Nat) (v : Value) (r : RD) (e : Ending) (w' : World) : Prop := e = .returned v ∧ Rdd w' g r ∧ w.grownBy w' (some g)
theorem Rdd.below {w w' : World} {g : Nat} {r : RD} (h : Rdd w g r) (hb : Below w.heap.size w w') : Rdd w' g r := Blk.below h hb (Blk.lt h)
theorem str_drop (l : List UInt8) (k : Nat) : (ByteArray.mk l.toArray).extract k l.length = ⟨(l.drop k).toArray⟩ := by
  have q := bl_from ⟨l.toArray⟩ k
  rw [size_of] at q
  rw [show bl ⟨l.toArray⟩ = l from bl_of l] at q
  rw [← q, bl_mk]
set_option maxHeartbeats 4000000 in
theorem rd_digits (g n : Nat) (r : RD) (w : World) (hR : Rdd w g r) (hl : r.l.length ≤ 100000) (hn : n ≤ 9) :
    Calls Tryz.prog 158 #[.pointer (some ⟨g, 0, none⟩), .int .i64 (n : Int)] w (RetD w g (.int .i64 (rdDig n r).1) (rdDig n r).2) := by
  obtain ⟨l, b⟩ := r
  simp only at hl
  have hg := Blk.lt hR
  have c0 := Blk.cell hR 0
  have c1 := Blk.cell hR 1
  simp at c0 c1
  have hfz := Blk.frozen hR
  have HR := Lib.hid hR
  clear hR
  by_cases h1 : l.length < n
  · have d1 : decide (l.length < n) = true := by simpa using h1
    have HV : Hid (rdDig n ⟨l, b⟩ = (0, ⟨l, true⟩)) := Lib.hid (by unfold rdDig; rw [if_pos h1])
    clear h1
    go_enter Tryz.func158, Tryz.ntmps158
    go_wp2_with fail
    go_ret
    rw [HV.out]
    exact ⟨rfl, by have := Blk.set_ HR.out 1 (.bool true); simpa [Rdd] using this, only_setCell (World.grownBy.refl _ _) (.inl rfl) _⟩
  · have d1 : decide (l.length < n) = false := by simp; omega
    have hV0 : rdDig n ⟨l, b⟩ = if (l.take n).all digB then (numL (l.take n), ⟨l.drop n, b⟩) else (0, ⟨l, true⟩) := by unfold rdDig; simp only; rw [if_neg h1]
    have HV := Lib.hid hV0
    clear hV0
    have hsz : (ByteArray.mk l.toArray).size = l.length := size_of l
    have hnl : n ≤ l.length := by omega
    obtain ⟨s0, hs0⟩ : ∃ s0, (ByteArray.mk l.toArray).extract 0 n = s0 := ⟨_, rfl⟩
    have hbl : bl s0 = l.take n := by rw [← hs0, bl_upto, bl_of]
    have hss : s0.size = n := by rw [← bl_len, hbl, List.length_take]; omega
    rw [← hbl] at HV
    have HD : Hid (l.drop n = l.drop n) := rfl
    clear h1
    go_enter Tryz.func158, Tryz.ntmps158
    go_wp2_with fail
    have hpow : ∀ k : Nat, k ≤ 9 → (10 : Int) ^ k ≤ 1000000000 := by
      intro k hk
      rcases (by omega : k = 0 ∨ k = 1 ∨ k = 2 ∨ k = 3 ∨ k = 4 ∨ k = 5 ∨ k = 6 ∨ k = 7 ∨ k = 8 ∨ k = 9) with rfl | rfl | rfl | rfl | rfl | rfl | rfl | rfl | rfl | rfl <;> decide
    have HPW := Lib.hid hpow
    clear hpow
    go_loopw [5] (fun v wr => ∃ (pos : Nat), v = .int .i64 (numL ((bl s0).take pos)) ∧ pos ≤ n ∧ Hid (((bl s0).take pos).all digB = true) ∧ wr.heap[w.heap.size]? = some (.stringIter s0 pos) ∧ Below w.heap.size w wr) (fun _ wr => n - wr.iterPos w.heap.size)
    case atStart =>
      refine ⟨0, rfl, by omega, Lib.hid rfl, ?_, bel_alloc (Below.refl _ _) _⟩
      have := World.iter_heap w s0 0
      simpa using this
    case round =>
      obtain ⟨pos, rfl, hps, HA, hit, hbw⟩ := hrel
      have hsz : w.heap.size < wr.heap.size := (Array.getElem?_eq_some_iff.1 hit).1
      have hdl : ((bl s0).take pos).length = pos := by rw [List.length_take, hbl, List.length_take]; omega
      have hb0 := numL_in HA.out
      rw [hdl] at hb0
      have hb1 := HPW.out pos (by omega)
      clear hs0
      by_cases hp : pos < n
      · have hp' : pos < s0.size := by omega
        have hnx : ∀ ty, (Instr.next (.pointer (some ⟨w.heap.size, 0, none⟩)) true ty).run Tryz.prog wr = _ := fun ty => Lib.run_next_any_at wr w.heap.size s0 pos ty hit hp'
        rw [decode_bl s0 pos hp'] at hnx
        obtain ⟨u, t, hut⟩ := len_cons (l := (bl s0).drop pos) (by rw [List.length_drop, hbl, List.length_take]; omega)
        have hu := u.toNat_lt
        rcases first_dig hut with ⟨hd, hf⟩ | ⟨hd, hf⟩
        · rw [hf] at hnx
          have hd' := hd
          unfold digB at hd'
          simp at hd'
          have t1 : decide (((u.toNat : Nat) : Int) < 48) = false := by simp; omega
          have t2 : decide ((57 : Int) < ((u.toNat : Nat) : Int)) = false := by simp; omega
          have q1 : IntKind.i32.wrap (((u.toNat : Nat) : Int) - 48) = ((u.toNat : Nat) : Int) - 48 := IntWalk.i32_in _ (by omega)
          have q2 : IntKind.i64.wrap (10 * numL ((bl s0).take pos)) = 10 * numL ((bl s0).take pos) := IntWalk.i64_in _ (by omega)
          have q3 : IntKind.i64.wrap (10 * numL ((bl s0).take pos) + (((u.toNat : Nat) : Int) - 48)) = 10 * numL ((bl s0).take pos) + (((u.toNat : Nat) : Int) - 48) := IntWalk.i64_in _ (by omega)
          have q4 : IntKind.i64.wrap (((u.toNat : Nat) : Int) - 48) = ((u.toNat : Nat) : Int) - 48 := IntWalk.i64_in _ (by omega)
          have HN : Hid (numL ((bl s0).take (pos + 1)) = 10 * numL ((bl s0).take pos) + (((u.toNat : Nat) : Int) - 48) ∧ ((bl s0).take (pos + 1)).all digB = true) := Lib.hid (by
            rw [take_snocD hut, numL_snoc, List.all_append, HA.out]
            exact ⟨rfl, by simp [hd]⟩)
          have hit2 := Lib.iterAt_heap wr w.heap.size s0 pos (pos + 1) hit
          have hbw2 := Lib.below_iterAt hbw (k := w.heap.size) (by omega) s0 (pos + 1)
          generalize numL ((bl s0).take pos) = x at *
          clear hut hf hd hd' HA
          go_wp2_with fail
          go_roundw
          case rel => exact ⟨pos + 1, by rw [HN.out.1], by omega, Lib.hid HN.out.2, hit2, hbw2⟩
          case measure =>
            simp only [World.iterPos, hit2, hit]
            omega
        · have HN : Hid ((bl s0).all digB = false) := Lib.hid (by
            have e : bl s0 = (bl s0).take pos ++ u :: t := by rw [← hut, List.take_append_drop]
            rw [e, List.all_append, List.all_cons, hd]
            simp)
          have hbw2 := Lib.below_iterAt hbw (k := w.heap.size) (by omega) s0 (pos + (firstL ((bl s0).drop pos)).2)
          have hR2 := HR.out.below hbw2
          have hfz2 := Blk.frozen hR2
          have e1 := Blk.cell hR2 1
          simp at e1
          have HR2 := Lib.hid hR2
          generalize firstL ((bl s0).drop pos) = f at *
          obtain ⟨fr, fw⟩ := f
          simp only at hf hnx hbw2 hfz2 e1 HR2
          have HF : Hid (rdDig n ⟨l, b⟩ = (0, ⟨l, true⟩)) := Lib.hid (by rw [HV.out, if_neg (by rw [HN.out]; decide)])
          clear hut hd HA hR2
          generalize numL ((bl s0).take pos) = x at *
          by_cases t1 : (fr : Int) < 48
          · have d2 : decide ((fr : Int) < 48) = true := by simpa using t1
            clear hf t1
            go_wp2_with fail
            go_ret
            rw [HF.out]
            exact ⟨rfl, by have := Blk.set_ HR2.out 1 (.bool true); simpa [Rdd] using this, only_setCell (only_of_below hbw2 _) (.inl rfl) _⟩
          · have d2 : decide ((fr : Int) < 48) = false := by simpa using t1
            have d3 : decide ((57 : Int) < (fr : Int)) = true := by simp; omega
            clear hf t1
            go_wp2_with fail
            go_ret
            rw [HF.out]
            exact ⟨rfl, by have := Blk.set_ HR2.out 1 (.bool true); simpa [Rdd] using this, only_setCell (only_of_below hbw2 _) (.inl rfl) _⟩
      · obtain rfl : pos = n := by omega
        have hnx : ∀ ty, (Instr.next (.pointer (some ⟨w.heap.size, 0, none⟩)) true ty).run Tryz.prog wr = _ := fun ty => Lib.run_next_end_at wr w.heap.size s0 pos ty hit (by omega)
        have hfull : (bl s0).take pos = bl s0 := List.take_of_length_le (by rw [bl_len]; omega)
        rw [hfull] at HA
        have HF : Hid (rdDig pos ⟨l, b⟩ = (numL (bl s0), ⟨l.drop pos, b⟩)) := Lib.hid (by rw [HV.out, if_pos HA.out])
        have HFU := Lib.hid hfull
        clear hfull hb0 hb1
        have hR2 := HR.out.below hbw
        have hfz2 := Blk.frozen hR2
        have e0 := Blk.cell hR2 0
        simp at e0
        have HR2 := Lib.hid hR2
        obtain ⟨s1, hs1⟩ : ∃ s1, (ByteArray.mk l.toArray).extract pos l.length = s1 := ⟨_, rfl⟩
        have HS1 : Hid (Value.string s1 = Value.string ⟨(l.drop pos).toArray⟩) := Lib.hid (by
          rw [← hs1, str_drop])
        rw [HFU.out]
        generalize numL (bl s0) = x at *
        clear hR2 HFU
        go_wp2_with fail
        go_ret
        rw [HF.out]
        exact ⟨rfl, by have := Blk.set_ HR2.out 0 (.string s1); rw [HS1.out] at this; simpa [Rdd, HS1.out] using this, only_setCell (only_of_below hbw _) (.inl rfl) _⟩
theorem index_has (c : UInt8) : ∀ l : List UInt8, (l.contains c = true ∧ 0 ≤ Lib.indexByte l c) ∨ (l.contains c = false ∧ Lib.indexByte l c = -1)
  | [] => .inr ⟨rfl, rfl⟩
  | b :: l => by
    have ih := index_has c l
    by_cases h : b = c
    · subst h
      exact .inl ⟨by simp, by simp [Lib.indexByte]⟩
    · have hb : (b == c) = false := by simpa using h
      have hb2 : (c == b) = false := by simp; exact fun e => h e.symm
      rcases ih with ⟨h1, h2⟩ | ⟨h1, h2⟩
      · refine .inl ⟨by rw [List.contains_cons, hb2, h1]; rfl, ?_⟩
        simp only [Lib.indexByte, hb]
        have : (Lib.indexByte l c == -1) = false := by simp; omega
        simp [this]
        omega
      · refine .inr ⟨by rw [List.contains_cons, hb2, h1]; rfl, ?_⟩
        simp [Lib.indexByte, hb, h2]
set_option maxHeartbeats 4000000 in
theorem rd_sign (g : Nat) (some_ : List UInt8) (r : RD) (w : World) (hR : Rdd w g r) (hl : r.l.length ≤ 100000) (hs : some_.length ≤ 9) :
    Calls Tryz.prog 159 #[.pointer (some ⟨g, 0, none⟩), .string ⟨some_.toArray⟩] w (RetD w g (.int .u8 ((rdSign some_ r).1.toNat : Int)) (rdSign some_ r).2) := by
  obtain ⟨l, b⟩ := r
  simp only at hl
  have hg := Blk.lt hR
  have c0 := Blk.cell hR 0
  have c1 := Blk.cell hR 1
  simp at c0 c1
  have hfz := Blk.frozen hR
  have HR := Lib.hid hR
  clear hR
  cases l with
  | nil =>
    have HV : Hid (rdSign some_ ⟨[], b⟩ = (0, ⟨[], true⟩)) := rfl
    go_enter Tryz.func159, Tryz.ntmps159
    go_wp2_with fail
    go_ret
    rw [HV.out]
    exact ⟨rfl, by have := Blk.set_ HR.out 1 (.bool true); simpa [Rdd] using this, only_setCell (World.grownBy.refl _ _) (.inl rfl) _⟩
  | cons c t =>
    have HX := Lib.hid (fun W => Tryz.strings_IndexByte ⟨some_.toArray⟩ ((c.toNat : Nat) : Int) W)
    have hc8 : ((c.toNat : Nat) : Int).toNat.toUInt8 = c := by simp
    rw [hc8] at HX
    obtain ⟨S, hS⟩ : ∃ S, ByteArray.mk (c :: t).toArray = S := ⟨_, rfl⟩
    have hsz : S.size = t.length + 1 := by rw [← hS, size_of]; rfl
    have hpos : 0 < S.size := by omega
    have hx0 : ∀ h, S[0]'h = c := by intro h; subst hS; rfl
    have hne1 : ¬ S.toList = [] := by
      intro e
      have := congrArg List.length e
      rw [ByteArray.toList_eq, Array.length_toList] at this
      have h3 : S.size = 0 := this
      omega
    have hne2 : S.toList.isEmpty = false := by
      cases hh : S.toList with
      | nil => exact absurd hh hne1
      | cons a b => rfl
    have HSZ := Lib.hid hsz
    have HS0 := Lib.hid hS
    rw [hS] at c0
    clear hsz hS
    simp only at HX
    rcases index_has c some_ with ⟨h1, h2⟩ | ⟨h1, h2⟩
    · have HV : Hid (rdSign some_ ⟨c :: t, b⟩ = (c, ⟨t, b⟩)) := Lib.hid (sign_of h1)
      have d1 : decide (Lib.indexByte some_ c < 0) = false := by simp; omega
      obtain ⟨s1, hs1⟩ : ∃ s1, S.extract 1 S.size = s1 := ⟨_, rfl⟩
      have HS1 : Hid (s1 = ⟨t.toArray⟩) := Lib.hid (by rw [← hs1, HSZ.out, ← HS0.out]; exact str_drop (c :: t) 1)
      generalize Lib.indexByte some_ c = ix at *
      clear h1 h2
      go_enter Tryz.func159, Tryz.ntmps159
      go_wp2_with fail
      (with_reducible refine (HX.out _).mono ?_)
      rintro e w1 ⟨rfl, rfl⟩
      go_wp2_with fail
      go_ret
      rw [HV.out]
      refine ⟨rfl, ?_, only_setCell (World.grownBy.refl _ _) (.inl rfl) _⟩
      have := Blk.set_ HR.out 0 (.string s1)
      rw [HS1.out] at this ⊢
      simpa [Rdd] using this
    · have HV : Hid (rdSign some_ ⟨c :: t, b⟩ = (0, ⟨c :: t, true⟩)) := Lib.hid (by unfold rdSign; simp only; rw [if_neg (by rw [h1]; decide)])
      rw [h2] at HX
      clear h1 h2
      go_enter Tryz.func159, Tryz.ntmps159
      go_wp2_with fail
      (with_reducible refine (HX.out _).mono ?_)
      rintro e w1 ⟨rfl, rfl⟩
      go_wp2_with fail
      go_ret
      rw [HV.out]
      exact ⟨rfl, by have := Blk.set_ HR.out 1 (.bool true); simpa [Rdd] using this, only_setCell (World.grownBy.refl _ _) (.inl rfl) _⟩
/-- how many digits come next -/
theorem runL_at {l : List UInt8} : ∀ {pos : Nat}, (l.take pos).all digB = true → pos ≤ l.length → runL l = pos + runL (l.drop pos) := by
  induction l with
  | nil => intro pos _ h; simp at h; subst h; simp [runL]
  | cons c t ih =>
    intro pos h1 h2
    cases pos with
    | zero => simp
    | succ k =>
      simp only [List.take_succ_cons, List.all_cons, Bool.and_eq_true] at h1
      simp only [runL, h1.1, if_true, List.drop_succ_cons]
      rw [ih (pos := k) h1.2 (by simpa using h2)]
      omega
theorem runL_le : ∀ l : List UInt8, runL l ≤ l.length
  | [] => by simp [runL]
  | c :: t => by
    have := runL_le t
    simp only [runL]
    split <;> simp <;> omega
set_option maxHeartbeats 4000000 in
theorem rd_run (g : Nat) (r : RD) (w : World) (hR : Rdd w g r) (hl : r.l.length ≤ 100000) :
    Calls Tryz.prog 173 #[.pointer (some ⟨g, 0, none⟩)] w fun e w' => e = .returned (.int .i64 (runL r.l : Int)) ∧ Below w.heap.size w w' := by
  obtain ⟨l, b⟩ := r
  simp only at hl ⊢
  have hg := Blk.lt hR
  have c0 := Blk.cell hR 0
  simp at c0
  have hfz := Blk.frozen hR
  have HR := Lib.hid hR
  clear hR
  obtain ⟨s0, hs0⟩ : ∃ s0, ByteArray.mk l.toArray = s0 := ⟨_, rfl⟩
  have hbl : bl s0 = l := by rw [← hs0, bl_of]
  have hss : s0.size = l.length := by rw [← hs0, size_of]
  have HRL : Hid (runL l = runL (bl s0)) := Lib.hid (by rw [hbl])
  rw [hs0] at c0
  have hcl : ((bl s0).length : Int) = (s0.size : Int) := by rw [bl_len]
  generalize runL l = out at *
  go_enter Tryz.func173, Tryz.ntmps173
  go_wp2_with fail
  go_loopw [] (fun wr => ∃ (pos : Nat), pos ≤ s0.size ∧ Hid (((bl s0).take pos).all digB = true) ∧ wr.heap[w.heap.size]? = some (.stringIter s0 pos) ∧ Below w.heap.size w wr) (fun wr => s0.size - wr.iterPos w.heap.size)
  case atStart =>
    refine ⟨0, by omega, Lib.hid rfl, ?_, bel_alloc (Below.refl _ _) _⟩
    have := World.iter_heap w s0 0
    simpa using this
  case round =>
    obtain ⟨pos, hps, HA, hit, hbw⟩ := hrel
    have hsz : w.heap.size < wr.heap.size := (Array.getElem?_eq_some_iff.1 hit).1
    have HO := Lib.hid (runL_at HA.out (by rw [bl_len]; exact hps))
    by_cases hp : pos < s0.size
    · have hnx : ∀ ty, (Instr.next (.pointer (some ⟨w.heap.size, 0, none⟩)) true ty).run Tryz.prog wr = _ := fun ty => Lib.run_next_any_at wr w.heap.size s0 pos ty hit hp
      rw [decode_bl s0 pos hp] at hnx
      obtain ⟨u, t, hut⟩ := len_cons (l := (bl s0).drop pos) (by rw [List.length_drop, bl_len]; omega)
      have hu := u.toNat_lt
      rcases first_dig hut with ⟨hd, hf⟩ | ⟨hd, hf⟩
      · rw [hf] at hnx
        have hd' := hd
        unfold digB at hd'
        simp at hd'
        have t1 : decide (((u.toNat : Nat) : Int) < 48) = false := by simp; omega
        have t2 : decide ((57 : Int) < ((u.toNat : Nat) : Int)) = false := by simp; omega
        have HN : Hid (((bl s0).take (pos + 1)).all digB = true) := Lib.hid (by
          rw [take_snocD hut, List.all_append, HA.out]
          simp [hd])
        have hit2 := Lib.iterAt_heap wr w.heap.size s0 pos (pos + 1) hit
        have hbw2 := Lib.below_iterAt hbw (k := w.heap.size) (by omega) s0 (pos + 1)
        clear hut hf hd hd' HA HO
        go_wp2_with fail
        go_roundw
        case rel => exact ⟨pos + 1, by omega, HN, hit2, hbw2⟩
        case measure =>
          simp only [World.iterPos, hit2, hit]
          omega
      · have HN : Hid (out = pos) := Lib.hid (by
          rw [HRL.out, HO.out, hut]
          simp [runL, hd])
        have hbw2 := Lib.below_iterAt hbw (k := w.heap.size) (by omega) s0 (pos + (firstL ((bl s0).drop pos)).2)
        generalize firstL ((bl s0).drop pos) = f at *
        obtain ⟨fr, fw⟩ := f
        simp only at hf hnx hbw2
        clear hut hd HA HO
        by_cases t1 : (fr : Int) < 48
        · have d2 : decide ((fr : Int) < 48) = true := by simpa using t1
          clear hf t1
          go_wp2_with fail
          go_ret
          rw [HN.out]
          exact ⟨rfl, hbw2⟩
        · have d2 : decide ((fr : Int) < 48) = false := by simpa using t1
          have d3 : decide ((57 : Int) < (fr : Int)) = true := by simp; omega
          clear hf t1
          go_wp2_with fail
          go_ret
          rw [HN.out]
          exact ⟨rfl, hbw2⟩
    · have hnx : ∀ ty, (Instr.next (.pointer (some ⟨w.heap.size, 0, none⟩)) true ty).run Tryz.prog wr = _ := fun ty => Lib.run_next_end_at wr w.heap.size s0 pos ty hit hp
      have HN : Hid (out = s0.size) := Lib.hid (by
        rw [HRL.out, HO.out, List.drop_of_length_le (by rw [bl_len]; omega)]
        simp [runL]
        omega)
      have e0 := (hbw.cell (p := ⟨g, 0, none⟩) hg).trans c0
      clear HA HO hcl
      go_wp2_with fail
      go_ret
      rw [HN.out, hss]
      exact ⟨rfl, hbw⟩
theorem prefix_dot (l : List UInt8) : Lib.hasPrefix l [46] = decide (l.head? = some 46) := by
  cases l with
  | nil => rfl
  | cons c t =>
    unfold Lib.hasPrefix
    by_cases h : c = 46 <;> simp [List.isPrefixOf, h]
    exact fun e => h e.symm
set_option maxHeartbeats 4000000 in
theorem rd_point (g : Nat) (r : RD) (w : World) (hR : Rdd w g r) (hl : r.l.length ≤ 100000) :
    Calls Tryz.prog 160 #[.pointer (some ⟨g, 0, none⟩)] w fun e w' => e = .returned (.tuple #[]) ∧ Rdd w' g (rdPoint r) ∧ w.grownBy w' (some g) := by
  obtain ⟨l, b⟩ := r
  simp only at hl
  have hg := Blk.lt hR
  have c0 := Blk.cell hR 0
  simp at c0
  have hfz := Blk.frozen hR
  have HX := Lib.hid (fun W => Tryz.strings_HasPrefix ⟨l.toArray⟩ ⟨#[46]⟩ W)
  have hpd := prefix_dot l
  by_cases hh : l.head? = some 46
  · obtain ⟨t, rfl⟩ : ∃ t, l = 46 :: t := by
      cases l with
      | nil => simp at hh
      | cons c t => simp at hh; exact ⟨t, by rw [hh]⟩
    have HX2 := Lib.hid (fun W => (HX.out W).mono fun e w' h => (show e = .returned (.bool true) ∧ w' = W by
      have := h.1
      rw [show Lib.hasPrefix (46 :: t) [46] = true by rw [hpd]; simp] at this
      exact ⟨this, h.2⟩))
    have HV : Hid (rdPoint ⟨46 :: t, b⟩ = ⟨t.drop (runL t), b || !(decide (1 ≤ runL t) && decide (runL t ≤ 9))⟩) := Lib.hid (by unfold rdPoint; rw [if_pos hh]; rfl)
    have hrl := runL_le t
    obtain ⟨S, hS⟩ : ∃ S, ByteArray.mk (46 :: t).toArray = S := ⟨_, rfl⟩
    have hsz : S.size = t.length + 1 := by rw [← hS, size_of]; rfl
    have hpos : 1 ≤ S.size := by omega
    obtain ⟨s1, hs1⟩ : ∃ s1, S.extract 1 S.size = s1 := ⟨_, rfl⟩
    have e1 : s1 = ⟨t.toArray⟩ := by rw [← hs1, hsz, ← hS]; exact str_drop (46 :: t) 1
    have HSZ := Lib.hid hsz
    rw [hS] at c0 HX2
    have HR := Lib.hid hR
    clear hR HX hpd hh hsz
    go_enter Tryz.func160, Tryz.ntmps160
    go_wp2_with fail
    (with_reducible refine (HX2.out _).mono ?_)
    rintro e w1 ⟨rfl, rfl⟩
    have hR2 : Rdd (w1.setCell ⟨g, 0, none⟩ (.string s1)) g ⟨t, b⟩ := by
      have := Blk.set_ HR.out 0 (.string s1)
      rw [e1] at this ⊢
      simpa [Rdd] using this
    have hl2 : t.length ≤ 100000 := by simp at hl; omega
    have HRN := Lib.hid (rd_run g ⟨t, b⟩ _ hR2 hl2)
    simp only at HRN
    have HW := Lib.hid (fun W => within_any ((runL t : Nat) : Int) 1 9 W)
    have hwb : (decide ((1 : Int) ≤ ((runL t : Nat) : Int)) && decide (((runL t : Nat) : Int) ≤ 9)) = (decide (1 ≤ runL t) && decide (runL t ≤ 9)) := by
      have h1 : ((1 : Int) ≤ ((runL t : Nat) : Int)) ↔ 1 ≤ runL t := by omega
      have h2 : (((runL t : Nat) : Int) ≤ 9) ↔ runL t ≤ 9 := by omega
      simp only [h1, h2]
    rw [hwb] at HW
    have HT1 := Lib.hid e1
    generalize (decide (1 ≤ runL t) && decide (runL t ≤ 9)) = okw at *
    obtain ⟨k, hk⟩ : ∃ k, runL t = k := ⟨_, rfl⟩
    rw [hk] at HRN HW HV hrl
    clear hk hwb hS e1
    go_wp2_with fail
    (with_reducible refine (HRN.out).mono ?_)
    rintro e w2 ⟨rfl, hb2⟩
    have hR3 := hR2.below hb2
    have G2 : w1.grownBy w2 (some g) := only_trans (only_setCell (World.grownBy.refl _ _) (.inl rfl) _) (only_of_below hb2 _)
    have f1 := Blk.cell hR3 1
    have f0 := Blk.cell hR3 0
    simp at f1 f0
    have hfz3 := Blk.frozen hR3
    have hlt3 := Blk.lt hR3
    have HR3 := Lib.hid hR3
    clear hR2 hR3 hb2 HRN c0 hfz HR hg
    have hs1z : s1.size = t.length := by rw [HT1.out, size_of]
    have hk1 : k ≤ s1.size := by omega
    obtain ⟨s2, hs2⟩ : ∃ s2, s1.extract k s1.size = s2 := ⟨_, rfl⟩
    have HS2 : Hid (s2 = ⟨(t.drop k).toArray⟩) := Lib.hid (by rw [← hs2, hs1z, HT1.out]; exact str_drop t k)
    rw [← HT1.out] at f0
    clear hs1z
    have fin : ∀ bb, Rdd ((w2.setCell ⟨g, 1, none⟩ (.bool bb)).setCell ⟨g, 0, none⟩ (.string s2)) g ⟨t.drop k, bb⟩ := by
      intro bb
      have := Blk.set_ (Blk.set_ HR3.out 1 (.bool bb)) 0 (.string s2)
      rw [HS2.out] at this ⊢
      simpa [Rdd] using this
    have FIN := Lib.hid fin
    have G3 : ∀ bb, w1.grownBy ((w2.setCell ⟨g, 1, none⟩ (.bool bb)).setCell ⟨g, 0, none⟩ (.string s2)) (some g) := fun bb => only_setCell (only_setCell G2 (.inl rfl) _) (.inl rfl) _
    have G4 := Lib.hid G3
    clear fin G3 G2
    cases b with
    | true =>
      go_wp2_with fail
      go_end0
      rw [HV.out]
      exact ⟨rfl, by simpa using FIN.out true, G4.out true⟩
    | false =>
      go_wp2_with fail
      (with_reducible refine (HW.out _).mono ?_)
      rintro e w3 ⟨rfl, rfl⟩
      cases okw with
      | true =>
        go_wp2_with fail
        go_end0
        rw [HV.out]
        exact ⟨rfl, by simpa using FIN.out false, G4.out false⟩
      | false =>
        go_wp2_with fail
        go_end0
        rw [HV.out]
        exact ⟨rfl, by simpa using FIN.out true, G4.out true⟩
  · have HX2 := Lib.hid (fun W => (HX.out W).mono fun e w' h => (show e = .returned (.bool false) ∧ w' = W by
      have := h.1
      rw [show Lib.hasPrefix l [46] = false by rw [hpd]; simp [hh]] at this
      exact ⟨this, h.2⟩))
    have HV : Hid (rdPoint ⟨l, b⟩ = ⟨l, b⟩) := Lib.hid (by unfold rdPoint; rw [if_neg hh])
    have HR := Lib.hid hR
    clear hR HX hpd hh
    go_enter Tryz.func160, Tryz.ntmps160
    go_wp2_with fail
    (with_reducible refine (HX2.out _).mono ?_)
    rintro e w1 ⟨rfl, rfl⟩
    go_wp2_with fail
    (try simp only [Exit.inBlock, Exit.then]); refine bodyPost_ret (results_none rfl _ _ _) rfl ?_
    rw [HV.out]
    exact ⟨rfl, HR.out, World.grownBy.refl _ _⟩
end Go.Proofs.YtjjlmkleidbmhaaGreatDoor
end
section
namespace Go.Proofs.YtjjlmkleidbmhaaGreatDoor
open Go.RowKit Go.Nst
set_option maxRecDepth 100000
set_option linter.unusedVariables false
set_option linter.unusedSimpArgs false

theorem len_dig (w : Nat) (r : RD) : (rdDig w r).2.l.length ≤ r.l.length := by
  unfold rdDig
  split
  · exact Nat.le_refl _
  · split
    · simp
    · exact Nat.le_refl _
theorem len_sign (s : List UInt8) (r : RD) : (rdSign s r).2.l.length ≤ r.l.length := by
  obtain ⟨l, b⟩ := r
  cases l with
  | nil => exact Nat.le_refl _
  | cons c t =>
    unfold rdSign
    simp only
    split <;> simp
theorem len_point (r : RD) : (rdPoint r).l.length ≤ r.l.length := by
  unfold rdPoint
  split
  · rename_i h
    simp only [List.length_drop, List.length_tail]
    omega
  · exact Nat.le_refl _
theorem dig2_bd (r : RD) : 0 ≤ (rdDig 2 r).1 ∧ (rdDig 2 r).1 ≤ 99 := by
  unfold rdDig
  split
  · simp
  · split
    · rename_i h1 h2
      have := numL_in h2
      have hl : (r.l.take 2).length = 2 := by rw [List.length_take]; omega
      rw [hl] at this
      simp only
      omega
    · simp
theorem dig4_bd (r : RD) : 0 ≤ (rdDig 4 r).1 ∧ (rdDig 4 r).1 ≤ 9999 := by
  unfold rdDig
  split
  · simp
  · split
    · rename_i h1 h2
      have := numL_in h2
      have hl : (r.l.take 4).length = 4 := by rw [List.length_take]; omega
      rw [hl] at this
      simp only
      omega
    · simp
theorem rd_digits2 (g : Nat) (r : RD) (w : World) (hR : Rdd w g r) (hl : r.l.length ≤ 100000) :
    Calls Tryz.prog 158 #[.pointer (some ⟨g, 0, none⟩), .int .i64 2] w (RetD w g (.int .i64 (rdDig 2 r).1) (rdDig 2 r).2) := rd_digits g 2 r w hR hl (by omega)
theorem rd_digits4 (g : Nat) (r : RD) (w : World) (hR : Rdd w g r) (hl : r.l.length ≤ 100000) :
    Calls Tryz.prog 158 #[.pointer (some ⟨g, 0, none⟩), .int .i64 4] w (RetD w g (.int .i64 (rdDig 4 r).1) (rdDig 4 r).2) := rd_digits g 4 r w hR hl (by omega)
set_option maxHeartbeats 4000000 in
theorem rd_offset (g : Nat) (colon : Bool) (r : RD) (w : World) (hR : Rdd w g r) (hl : r.l.length ≤ 100000) :
    Calls Tryz.prog 175 #[.pointer (some ⟨g, 0, none⟩), .bool colon] w (RetD w g (.int .i64 (rdOff colon r).1) (rdOff colon r).2) := by
  have H1 := Lib.hid (rd_sign g [43, 45] r w hR hl (by simp))
  have L1 := len_sign [43, 45] r
  have HV : Hid (rdOff colon r = (offN (rdSign [43, 45] r).1 (rdDig 2 (rdSign [43, 45] r).2).1 (rdDig 2 (rdColon colon (rdDig 2 (rdSign [43, 45] r).2).2)).1, ⟨(rdDig 2 (rdColon colon (rdDig 2 (rdSign [43, 45] r).2).2)).2.l, (rdDig 2 (rdColon colon (rdDig 2 (rdSign [43, 45] r).2).2)).2.bad || (decide (23 < (rdDig 2 (rdSign [43, 45] r).2).1) || decide (59 < (rdDig 2 (rdColon colon (rdDig 2 (rdSign [43, 45] r).2).2)).1))⟩)) := rfl
  generalize rdSign [43, 45] r = q1 at *
  obtain ⟨sg, r1⟩ := q1
  simp only at H1 L1 HV
  have H2 := Lib.hid (fun W h => rd_digits2 g r1 W h (by omega))
  have L2 := len_dig 2 r1
  have hd2 := dig2_bd r1
  generalize rdDig 2 r1 = q2 at *
  obtain ⟨hh, r2⟩ := q2
  simp only at H2 L2 HV hd2
  have H3 := Lib.hid (fun W h => rd_sign g [58] r2 W h (by omega) (by simp))
  have L3 := len_sign [58] r2
  cases colon with
  | true =>
    have e3 : rdColon true r2 = (rdSign [58] r2).2 := rfl
    rw [e3] at HV
    generalize rdSign [58] r2 = q3 at *
    obtain ⟨_, r3⟩ := q3
    simp only at H3 L3 HV
    have H4 := Lib.hid (fun W h => rd_digits2 g r3 W h (by omega))
    have hd4 := dig2_bd r3
    generalize rdDig 2 r3 = q4 at *
    obtain ⟨mm, r4⟩ := q4
    simp only at H4 HV hd4
    have w1_ : IntKind.i64.wrap (3600 * hh) = 3600 * hh := IntWalk.i64_in _ (by omega)
    have w2_ : IntKind.i64.wrap (60 * mm) = 60 * mm := IntWalk.i64_in _ (by omega)
    have w3_ : IntKind.i64.wrap (3600 * hh + 60 * mm) = 3600 * hh + 60 * mm := IntWalk.i64_in _ (by omega)
    have w4_ : IntKind.i64.wrap (-(3600 * hh + 60 * mm)) = -(3600 * hh + 60 * mm) := IntWalk.i64_in _ (by omega)
    go_enter Tryz.func175, Tryz.ntmps175
    go_wp2_with fail
    (with_reducible refine (H1.out).mono ?_)
    rintro e w1 ⟨rfl, hR1, hg1⟩
    go_wp2_with fail
    (with_reducible refine (H2.out _ hR1).mono ?_)
    rintro e w2 ⟨rfl, hR2, hg2⟩
    have G2 := only_trans hg1 hg2
    clear hR1 hg1 hg2
    go_wp2_with fail
    (with_reducible refine (H3.out _ hR2).mono ?_)
    rintro e w3 ⟨rfl, hR3, hg3⟩
    have G3 := only_trans G2 hg3
    clear hR2 hg3 G2
    go_wp2_with fail
    (with_reducible refine (H4.out _ hR3).mono ?_)
    rintro e w4 ⟨rfl, hR4, hg4⟩
    have G4 := only_trans G3 hg4
    clear hR3 hg4 G3
    obtain ⟨l4, b4⟩ := r4
    have f1 := Blk.cell hR4 1
    simp at f1
    have hfz := Blk.frozen hR4
    have FIN : Hid (∀ bb, Rdd (w4.setCell ⟨g, 1, none⟩ (.bool bb)) g ⟨l4, bb⟩ ∧ w.grownBy (w4.setCell ⟨g, 1, none⟩ (.bool bb)) (some g)) := Lib.hid (fun bb => ⟨by have := Blk.set_ hR4 1 (.bool bb); simpa [Rdd] using this, only_setCell G4 (.inl rfl) _⟩)
    clear hR4 G4
    simp only at HV
    by_cases sgn : sg = 45
    · have sg1 : (((sg.toNat : Nat) : Int) == 45) = true := by subst sgn; rfl
      have HO : Hid (offN sg hh mm = -(3600 * hh + 60 * mm)) := Lib.hid (by unfold offN; rw [if_pos sgn])
      clear sgn
      cases b4 with
      | true =>
        go_wp2_with fail
        go_ret
        rw [HV.out, HO.out]
        exact ⟨rfl, by simpa using (FIN.out true).1, (FIN.out true).2⟩
      | false =>
        by_cases t1 : 23 < hh
        · have d1 : decide (23 < hh) = true := by simpa using t1
          rw [d1] at HV
          go_wp2_with fail
          go_ret
          rw [HV.out, HO.out]
          exact ⟨rfl, by simpa using (FIN.out true).1, (FIN.out true).2⟩
        · have d1 : decide (23 < hh) = false := by simpa using t1
          by_cases t2 : 59 < mm
          · have d2 : decide (59 < mm) = true := by simpa using t2
            rw [d1, d2] at HV
            go_wp2_with fail
            go_ret
            rw [HV.out, HO.out]
            exact ⟨rfl, by simpa using (FIN.out true).1, (FIN.out true).2⟩
          · have d2 : decide (59 < mm) = false := by simpa using t2
            rw [d1, d2] at HV
            go_wp2_with fail
            go_ret
            rw [HV.out, HO.out]
            exact ⟨rfl, by simpa using (FIN.out false).1, (FIN.out false).2⟩
    · have sg1 : (((sg.toNat : Nat) : Int) == 45) = false := by
        rw [beq_eq_false_iff_ne]; intro e; apply sgn; apply UInt8.toNat_inj.1; have : sg.toNat = 45 := by omega
        rw [this]; rfl
      have HO : Hid (offN sg hh mm = 3600 * hh + 60 * mm) := Lib.hid (by unfold offN; rw [if_neg sgn])
      clear sgn
      cases b4 with
      | true =>
        go_wp2_with fail
        go_ret
        rw [HV.out, HO.out]
        exact ⟨rfl, by simpa using (FIN.out true).1, (FIN.out true).2⟩
      | false =>
        by_cases t1 : 23 < hh
        · have d1 : decide (23 < hh) = true := by simpa using t1
          rw [d1] at HV
          go_wp2_with fail
          go_ret
          rw [HV.out, HO.out]
          exact ⟨rfl, by simpa using (FIN.out true).1, (FIN.out true).2⟩
        · have d1 : decide (23 < hh) = false := by simpa using t1
          by_cases t2 : 59 < mm
          · have d2 : decide (59 < mm) = true := by simpa using t2
            rw [d1, d2] at HV
            go_wp2_with fail
            go_ret
            rw [HV.out, HO.out]
            exact ⟨rfl, by simpa using (FIN.out true).1, (FIN.out true).2⟩
          · have d2 : decide (59 < mm) = false := by simpa using t2
            rw [d1, d2] at HV
            go_wp2_with fail
            go_ret
            rw [HV.out, HO.out]
            exact ⟨rfl, by simpa using (FIN.out false).1, (FIN.out false).2⟩
  | false =>
    have e3 : rdColon false r2 = r2 := rfl
    rw [e3] at HV
    have H4 := Lib.hid (fun W h => rd_digits2 g r2 W h (by omega))
    have hd4 := dig2_bd r2
    clear H3 L3
    generalize rdDig 2 r2 = q4 at *
    obtain ⟨mm, r4⟩ := q4
    simp only at H4 HV hd4
    have w1_ : IntKind.i64.wrap (3600 * hh) = 3600 * hh := IntWalk.i64_in _ (by omega)
    have w2_ : IntKind.i64.wrap (60 * mm) = 60 * mm := IntWalk.i64_in _ (by omega)
    have w3_ : IntKind.i64.wrap (3600 * hh + 60 * mm) = 3600 * hh + 60 * mm := IntWalk.i64_in _ (by omega)
    have w4_ : IntKind.i64.wrap (-(3600 * hh + 60 * mm)) = -(3600 * hh + 60 * mm) := IntWalk.i64_in _ (by omega)
    go_enter Tryz.func175, Tryz.ntmps175
    go_wp2_with fail
    (with_reducible refine (H1.out).mono ?_)
    rintro e w1 ⟨rfl, hR1, hg1⟩
    go_wp2_with fail
    (with_reducible refine (H2.out _ hR1).mono ?_)
    rintro e w2 ⟨rfl, hR2, hg2⟩
    have G2 := only_trans hg1 hg2
    clear hR1 hg1 hg2
    have hR3 := hR2
    have G3 := G2
    go_wp2_with fail
    (with_reducible refine (H4.out _ hR3).mono ?_)
    rintro e w4 ⟨rfl, hR4, hg4⟩
    have G4 := only_trans G3 hg4
    clear hR3 hg4 G3
    obtain ⟨l4, b4⟩ := r4
    have f1 := Blk.cell hR4 1
    simp at f1
    have hfz := Blk.frozen hR4
    have FIN : Hid (∀ bb, Rdd (w4.setCell ⟨g, 1, none⟩ (.bool bb)) g ⟨l4, bb⟩ ∧ w.grownBy (w4.setCell ⟨g, 1, none⟩ (.bool bb)) (some g)) := Lib.hid (fun bb => ⟨by have := Blk.set_ hR4 1 (.bool bb); simpa [Rdd] using this, only_setCell G4 (.inl rfl) _⟩)
    clear hR4 G4
    simp only at HV
    by_cases sgn : sg = 45
    · have sg1 : (((sg.toNat : Nat) : Int) == 45) = true := by subst sgn; rfl
      have HO : Hid (offN sg hh mm = -(3600 * hh + 60 * mm)) := Lib.hid (by unfold offN; rw [if_pos sgn])
      clear sgn
      cases b4 with
      | true =>
        go_wp2_with fail
        go_ret
        rw [HV.out, HO.out]
        exact ⟨rfl, by simpa using (FIN.out true).1, (FIN.out true).2⟩
      | false =>
        by_cases t1 : 23 < hh
        · have d1 : decide (23 < hh) = true := by simpa using t1
          rw [d1] at HV
          go_wp2_with fail
          go_ret
          rw [HV.out, HO.out]
          exact ⟨rfl, by simpa using (FIN.out true).1, (FIN.out true).2⟩
        · have d1 : decide (23 < hh) = false := by simpa using t1
          by_cases t2 : 59 < mm
          · have d2 : decide (59 < mm) = true := by simpa using t2
            rw [d1, d2] at HV
            go_wp2_with fail
            go_ret
            rw [HV.out, HO.out]
            exact ⟨rfl, by simpa using (FIN.out true).1, (FIN.out true).2⟩
          · have d2 : decide (59 < mm) = false := by simpa using t2
            rw [d1, d2] at HV
            go_wp2_with fail
            go_ret
            rw [HV.out, HO.out]
            exact ⟨rfl, by simpa using (FIN.out false).1, (FIN.out false).2⟩
    · have sg1 : (((sg.toNat : Nat) : Int) == 45) = false := by
        rw [beq_eq_false_iff_ne]; intro e; apply sgn; apply UInt8.toNat_inj.1; have : sg.toNat = 45 := by omega
        rw [this]; rfl
      have HO : Hid (offN sg hh mm = 3600 * hh + 60 * mm) := Lib.hid (by unfold offN; rw [if_neg sgn])
      clear sgn
      cases b4 with
      | true =>
        go_wp2_with fail
        go_ret
        rw [HV.out, HO.out]
        exact ⟨rfl, by simpa using (FIN.out true).1, (FIN.out true).2⟩
      | false =>
        by_cases t1 : 23 < hh
        · have d1 : decide (23 < hh) = true := by simpa using t1
          rw [d1] at HV
          go_wp2_with fail
          go_ret
          rw [HV.out, HO.out]
          exact ⟨rfl, by simpa using (FIN.out true).1, (FIN.out true).2⟩
        · have d1 : decide (23 < hh) = false := by simpa using t1
          by_cases t2 : 59 < mm
          · have d2 : decide (59 < mm) = true := by simpa using t2
            rw [d1, d2] at HV
            go_wp2_with fail
            go_ret
            rw [HV.out, HO.out]
            exact ⟨rfl, by simpa using (FIN.out true).1, (FIN.out true).2⟩
          · have d2 : decide (59 < mm) = false := by simpa using t2
            rw [d1, d2] at HV
            go_wp2_with fail
            go_ret
            rw [HV.out, HO.out]
            exact ⟨rfl, by simpa using (FIN.out false).1, (FIN.out false).2⟩
end Go.Proofs.YtjjlmkleidbmhaaGreatDoor
end
section
namespace Go.Proofs.YtjjlmkleidbmhaaGreatDoor
open Go.RowKit Go.Nst
set_option maxRecDepth 100000
set_option linter.unusedVariables false
set_option linter.unusedSimpArgs false

set_option maxHeartbeats 1000000 in
theorem days4_any (y m : Int) (w : World) (hm0 : -9223372036854775808 ≤ m) (hm1 : m ≤ 9223372036854775807) : Calls Tryz.prog 183 #[.int .i64 y, .int .i64 m] w fun e w' => e = .returned (.int .i64 (daysM y m)) ∧ w = w' := by
  obtain ⟨r, hr⟩ : ∃ r, daysM y m = r := ⟨_, rfl⟩
  rw [hr]
  unfold daysM at hr
  by_cases a1 : y < 1
  · have HR : Hid (r = 0) := Lib.hid (by rw [← hr, if_pos (by omega)])
    have d1 : decide (y < 1) = true := by simpa using a1
    clear hr a1
    go_enter Tryz.func183, Tryz.ntmps183
    go_wp2_with fail
    go_ret
    rw [HR.out]
    exact ⟨rfl, rfl⟩
  have d1 : decide (y < 1) = false := by simpa using a1
  by_cases a2 : 9999 < y
  · have HR : Hid (r = 0) := Lib.hid (by rw [← hr, if_pos (by omega)])
    have d2 : decide (9999 < y) = true := by simpa using a2
    clear hr a1 a2
    go_enter Tryz.func183, Tryz.ntmps183
    go_wp2_with fail
    go_ret
    rw [HR.out]
    exact ⟨rfl, rfl⟩
  have d2 : decide (9999 < y) = false := by simpa using a2
  by_cases a3 : m < 1
  · have HR : Hid (r = 0) := Lib.hid (by rw [← hr, if_pos (by omega)])
    have d3 : decide (m < 1) = true := by simpa using a3
    clear hr a1 a2 a3
    go_enter Tryz.func183, Tryz.ntmps183
    go_wp2_with fail
    go_ret
    rw [HR.out]
    exact ⟨rfl, rfl⟩
  have d3 : decide (m < 1) = false := by simpa using a3
  by_cases a4 : 12 < m
  · have HR : Hid (r = 0) := Lib.hid (by rw [← hr, if_pos (by omega)])
    have d4 : decide (12 < m) = true := by simpa using a4
    clear hr a1 a2 a3 a4
    go_enter Tryz.func183, Tryz.ntmps183
    go_wp2_with fail
    go_ret
    rw [HR.out]
    exact ⟨rfl, rfl⟩
  have d4 : decide (12 < m) = false := by simpa using a4
  rw [if_neg (by omega)] at hr
  have HL := Lib.hid (fun W => leap4_any y W (by omega) (by omega))
  by_cases a5 : m = 2
  · subst a5
    rw [if_pos rfl] at hr
    cases hl : leapB y with
    | true =>
      rw [hl, if_pos rfl] at hr
      rw [hl] at HL
      have HR := Lib.hid hr
      clear hr hl a1 a2 a3 a4
      go_enter Tryz.func183, Tryz.ntmps183
      go_wp2_with fail
      (with_reducible refine (HL.out _).mono ?_)
      rintro e w1 ⟨rfl, rfl⟩
      go_wp2_with fail
      go_ret
      rw [← HR.out]
      exact ⟨rfl, rfl⟩
    | false =>
      rw [hl, if_neg (by decide)] at hr
      rw [hl] at HL
      have HR := Lib.hid hr
      clear hr hl a1 a2 a3 a4
      go_enter Tryz.func183, Tryz.ntmps183
      go_wp2_with fail
      (with_reducible refine (HL.out _).mono ?_)
      rintro e w1 ⟨rfl, rfl⟩
      go_wp2_with fail
      go_ret
      rw [← HR.out]
      exact ⟨rfl, rfl⟩
  · have d5 : (m == 2) = false := by simpa using a5
    rw [if_neg a5] at hr
    have HR := Lib.hid hr
    rcases (by omega : m = 1 ∨ m = 3 ∨ m = 4 ∨ m = 5 ∨ m = 6 ∨ m = 7 ∨ m = 8 ∨ m = 9 ∨ m = 10 ∨ m = 11 ∨ m = 12) with rfl | rfl | rfl | rfl | rfl | rfl | rfl | rfl | rfl | rfl | rfl
    all_goals
      clear hr a1 a2 a3 a4 a5 d3 d4 d5
      go_enter Tryz.func183, Tryz.ntmps183
      go_wp2_with fail
      go_ret
      rw [← HR.out]
      exact ⟨rfl, rfl⟩

set_option maxHeartbeats 4000000 in
theorem check4_any (y m d h_ mi s : Int) (w : World) (hm0 : -9223372036854775808 ≤ m) (hm1 : m ≤ 9223372036854775807) : Calls Tryz.prog 179 #[.agg #[.int .i64 y, .int .i64 m, .int .i64 d, .int .i64 h_, .int .i64 mi, .int .i64 s]] w fun e w' => e = .returned (.int .i64 (if Dt.ok ⟨y, m, d, h_, mi, s⟩ then 0 else 40)) ∧ Below w.heap.size w w' := by
  have HDY := Lib.hid (fun W => days4_any y m W hm0 hm1)
  have HK : Hid (Dt.ok ⟨y, m, d, h_, mi, s⟩ = ((decide (1 ≤ d) && decide (d ≤ daysM y m)) && (decide (0 ≤ h_) && decide (h_ ≤ 23)) && (decide (0 ≤ mi) && decide (mi ≤ 59)) && (decide (0 ≤ s) && decide (s ≤ 59)))) := Lib.hid (by unfold Dt.ok; simp only [Bool.and_assoc])
  generalize daysM y m = D at *
  have HW1 := Lib.hid (fun W => within_any d 1 D W)
  have HW2 := Lib.hid (fun W => within_any h_ 0 23 W)
  have HW3 := Lib.hid (fun W => within_any mi 0 59 W)
  have HW4 := Lib.hid (fun W => within_any s 0 59 W)
  generalize (decide (1 ≤ d) && decide (d ≤ D)) = t1 at HK HW1
  generalize (decide (0 ≤ h_) && decide (h_ ≤ 23)) = t2 at HK HW2
  generalize (decide (0 ≤ mi) && decide (mi ≤ 59)) = t3 at HK HW3
  generalize (decide (0 ≤ s) && decide (s ≤ 59)) = t4 at HK HW4
  have B0 := bel_alloc (Below.refl w.heap.size w) (.cells #[.int .i64 y, .int .i64 m, .int .i64 d, .int .i64 h_, .int .i64 mi, .int .i64 s] 80)
  cases t1 with
  | false =>
    rw [HK.out]
    go_enter Tryz.func179, Tryz.ntmps179
    go_wp2_with fail
    go_quiet (first | (go_at_call 183; exact quiet_same (HDY.out _)) | (go_at_call 87; first | with_reducible exact quiet_same (HW1.out _)))
    go_wp2_with fail
    go_ret
    exact ⟨rfl, Nst.below_drewN B0 _⟩
  | true =>
    cases t2 with
    | false =>
      rw [HK.out]
      go_enter Tryz.func179, Tryz.ntmps179
      go_wp2_with fail
      go_quiet (first | (go_at_call 183; exact quiet_same (HDY.out _)) | (go_at_call 87; first | with_reducible exact quiet_same (HW1.out _) | with_reducible exact quiet_same (HW2.out _)))
      go_wp2_with fail
      go_ret
      exact ⟨rfl, Nst.below_drewN B0 _⟩
    | true =>
      cases t3 with
      | false =>
        rw [HK.out]
        go_enter Tryz.func179, Tryz.ntmps179
        go_wp2_with fail
        go_quiet (first | (go_at_call 183; exact quiet_same (HDY.out _)) | (go_at_call 87; first | with_reducible exact quiet_same (HW1.out _) | with_reducible exact quiet_same (HW2.out _) | with_reducible exact quiet_same (HW3.out _)))
        go_wp2_with fail
        go_ret
        exact ⟨rfl, Nst.below_drewN B0 _⟩
      | true =>
        cases t4 with
        | false =>
          rw [HK.out]
          go_enter Tryz.func179, Tryz.ntmps179
          go_wp2_with fail
          go_quiet (first | (go_at_call 183; exact quiet_same (HDY.out _)) | (go_at_call 87; first | with_reducible exact quiet_same (HW1.out _) | with_reducible exact quiet_same (HW2.out _) | with_reducible exact quiet_same (HW3.out _) | with_reducible exact quiet_same (HW4.out _)))
          go_wp2_with fail
          go_ret
          exact ⟨rfl, Nst.below_drewN B0 _⟩
        | true =>
          rw [HK.out]
          go_enter Tryz.func179, Tryz.ntmps179
          go_wp2_with fail
          go_quiet (first | (go_at_call 183; exact quiet_same (HDY.out _)) | (go_at_call 87; first | with_reducible exact quiet_same (HW1.out _) | with_reducible exact quiet_same (HW2.out _) | with_reducible exact quiet_same (HW3.out _) | with_reducible exact quiet_same (HW4.out _)))
          go_wp2_with fail
          go_ret
          exact ⟨rfl, Nst.below_drewN B0 _⟩
set_option maxHeartbeats 2000000 in
theorem dayn_any (y m d h_ mi s : Int) (w : World) (hy0 : 1 ≤ y) (hy1 : y ≤ 9999) (hm0 : 1 ≤ m) (hm1 : m ≤ 12) (hd0 : 1 ≤ d) (hd1 : d ≤ 31) : Calls Tryz.prog 180 #[.agg #[.int .i64 y, .int .i64 m, .int .i64 d, .int .i64 h_, .int .i64 mi, .int .i64 s]] w fun e w' => e = .returned (.int .i64 (daysC y m d)) ∧ Below w.heap.size w w' := by
  have HR : Hid (daysC y m d = if m - 3 < 0 then 146097 * ((y - 1) / 400) + 365 * ((y - 1) % 400) + (y - 1) % 400 / 4 - (y - 1) % 400 / 100 + (153 * (m + 9) + 2) / 5 + d - 1 - 719468 else 146097 * (y / 400) + 365 * (y % 400) + y % 400 / 4 - y % 400 / 100 + (153 * (m - 3) + 2) / 5 + d - 1 - 719468) := rfl
  have B0 := bel_alloc (Below.refl w.heap.size w) (.cells #[.int .i64 y, .int .i64 m, .int .i64 d, .int .i64 h_, .int .i64 mi, .int .i64 s] 80)
  by_cases hc : m - 3 < 0
  · have hr2 := HR.out.trans (if_pos hc)
    rw [show m + 9 = m - 3 + 12 by omega] at hr2
    have HR2 := Lib.hid hr2
    clear hr2
    have d1 : decide (m - 3 < 0) = true := by simpa using hc
    clear HR
    go_enter Tryz.func180, Tryz.ntmps180
    go_wp2_with fail
    go_quiet (fail)
    go_wp2_with fail
    go_ret
    rw [HR2.out]
    exact ⟨rfl, Nst.below_drewN B0 _⟩
  · have HR2 := Lib.hid (HR.out.trans (if_neg hc))
    have d1 : decide (m - 3 < 0) = false := by simpa using hc
    clear HR
    go_enter Tryz.func180, Tryz.ntmps180
    go_wp2_with fail
    go_quiet (fail)
    go_wp2_with fail
    go_ret
    rw [HR2.out]
    exact ⟨rfl, Nst.below_drewN B0 _⟩
set_option maxHeartbeats 2000000 in
theorem moment_no (y m d h_ mi s : Int) (w : World) (hm0 : -9223372036854775808 ≤ m) (hm1 : m ≤ 9223372036854775807) (hok : Dt.ok ⟨y, m, d, h_, mi, s⟩ = false) : Calls Tryz.prog 174 #[.agg #[.int .i64 y, .int .i64 m, .int .i64 d, .int .i64 h_, .int .i64 mi, .int .i64 s]] w fun e w' => e = .returned (.tuple #[.int .i64 0, .int .i64 40]) ∧ Below w.heap.size w w' := by
  have HC := Lib.hid (fun W => check4_any y m d h_ mi s W hm0 hm1)
  rw [hok] at HC
  have B0 := bel_alloc (Below.refl w.heap.size w) (.cells #[.int .i64 y, .int .i64 m, .int .i64 d, .int .i64 h_, .int .i64 mi, .int .i64 s] 80)
  clear hok
  simp only [Bool.false_eq_true, if_false] at HC
  go_enter Tryz.func174, Tryz.ntmps174
  go_wp2_with fail
  (with_reducible refine (HC.out _).mono ?_)
  rintro e w1 ⟨rfl, hb1⟩
  go_wp2_with fail
  go_ret2
  exact ⟨rfl, bel_step B0 hb1⟩
set_option maxHeartbeats 4000000 in
theorem moment_yes (y m d h_ mi s : Int) (w : World) (hok : Dt.ok ⟨y, m, d, h_, mi, s⟩ = true) : Calls Tryz.prog 174 #[.agg #[.int .i64 y, .int .i64 m, .int .i64 d, .int .i64 h_, .int .i64 mi, .int .i64 s]] w fun e w' => e = .returned (.tuple #[.int .i64 (Dt.mom ⟨y, m, d, h_, mi, s⟩), .int .i64 0]) ∧ Below w.heap.size w w' := by
  obtain ⟨hy0, hy1, hm0, hm1⟩ := ok_ym hok
  have hx := (ok_iff _).1 hok
  have hdp := days_pos hy0 hy1 hm0 hm1
  have hmb := mom_bounds hok
  rw [mayM_iff] at hmb
  simp only at hy0 hy1 hm0 hm1 hx hdp
  have HC := Lib.hid (fun W => check4_any y m d h_ mi s W (by omega) (by omega))
  have HD := Lib.hid (fun W => dayn_any y m d h_ mi s W (by omega) (by omega) (by omega) (by omega) (by omega) (by omega))
  rw [hok] at HC
  have HV : Hid (Dt.mom ⟨y, m, d, h_, mi, s⟩ = 86400 * daysC y m d + 3600 * h_ + 60 * mi + s) := rfl
  unfold Dt.mom at hmb
  simp only at hmb
  rw [HV.out]
  clear HV
  generalize daysC y m d = D at *
  have B0 := bel_alloc (Below.refl w.heap.size w) (.cells #[.int .i64 y, .int .i64 m, .int .i64 d, .int .i64 h_, .int .i64 mi, .int .i64 s] 80)
  have hv0 := Blk.new w 80 #[.int .i64 y, .int .i64 m, .int .i64 d, .int .i64 h_, .int .i64 mi, .int .i64 s]
  simp only [if_true] at HC
  clear hok hdp
  have k1 : IntKind.i64.wrap (86400 * D) = 86400 * D := IntWalk.i64_in _ (by omega)
  have k2 : IntKind.i64.wrap (3600 * h_) = 3600 * h_ := IntWalk.i64_in _ (by omega)
  have k3 : IntKind.i64.wrap (86400 * D + 3600 * h_) = 86400 * D + 3600 * h_ := IntWalk.i64_in _ (by omega)
  have k4 : IntKind.i64.wrap (60 * mi) = 60 * mi := IntWalk.i64_in _ (by omega)
  have k5 : IntKind.i64.wrap (86400 * D + 3600 * h_ + 60 * mi) = 86400 * D + 3600 * h_ + 60 * mi := IntWalk.i64_in _ (by omega)
  have k6 : IntKind.i64.wrap (86400 * D + 3600 * h_ + 60 * mi + s) = 86400 * D + 3600 * h_ + 60 * mi + s := IntWalk.i64_in _ (by omega)
  go_enter Tryz.func174, Tryz.ntmps174
  go_wp2_with fail
  (with_reducible refine (HC.out _).mono ?_)
  rintro e w1 ⟨rfl, hb1⟩
  have hv1 := hv0.below hb1 hv0.lt
  have B1 := bel_step B0 hb1
  clear hb1 hv0 B0
  go_wp2_with fail
  refine wp_region_seq (by kernel_rfl) [(0, true), (3, true), (4, true), (5, true), (7, true), (8, true), (9, true), (11, true), (12, true), (1, false), (2, true), (6, true), (10, true), (13, true), (14, true), (15, true)] (by kernel_rfl) rfl (by kernel_rfl) ?_
  intro w2 hb2
  have hv2 := hv1.below hb2 hv1.lt
  have B2 := bel_step B1 hb2
  have cv : ∀ W, Below w2.heap.size w2 W → Blk W w.heap.size 80 #[.int .i64 y, .int .i64 m, .int .i64 d, .int .i64 h_, .int .i64 mi, .int .i64 s] := fun W hW => hv2.below hW hv2.lt
  have c0 := fun W (hW : Below w2.heap.size w2 W) => (show W.cell? ⟨w.heap.size, 0, none⟩ = some (.int .i64 y) from ((cv W hW).cell 0).trans rfl)
  have c1 := fun W (hW : Below w2.heap.size w2 W) => (show W.cell? ⟨w.heap.size, 1, none⟩ = some (.int .i64 m) from ((cv W hW).cell 1).trans rfl)
  have c2 := fun W (hW : Below w2.heap.size w2 W) => (show W.cell? ⟨w.heap.size, 2, none⟩ = some (.int .i64 d) from ((cv W hW).cell 2).trans rfl)
  have c3 := fun W (hW : Below w2.heap.size w2 W) => (show W.cell? ⟨w.heap.size, 3, none⟩ = some (.int .i64 h_) from ((cv W hW).cell 3).trans rfl)
  have c4 := fun W (hW : Below w2.heap.size w2 W) => (show W.cell? ⟨w.heap.size, 4, none⟩ = some (.int .i64 mi) from ((cv W hW).cell 4).trans rfl)
  have c5 := fun W (hW : Below w2.heap.size w2 W) => (show W.cell? ⟨w.heap.size, 5, none⟩ = some (.int .i64 s) from ((cv W hW).cell 5).trans rfl)
  clear cv hv1 hv2 B1 hb2
  iterate 9 (refine wpSeq_take (o := ⟨_, _, _, _, _, _⟩) (v := ?_) rfl rfl ?_ ?_; rotate_left; (focus (intro W hW; go_simp; first | done | with_reducible rfl)); simp only [Act.put, List.setIfInBounds_toArray, List.set_cons_zero, List.set_cons_succ])
  clear c0 c1 c2 c3 c4 c5
  refine wpSeq_exec (o := ⟨_, _, _, _, _, _⟩) rfl rfl (fun K hK => ?_)
  go_simp
  (with_reducible refine (HD.out w2).mono ?_)
  rintro e w3 ⟨rfl, hb3⟩
  go_wp2_with fail
  refine hK _ _ hb3 ?_
  clear hK K
  iterate 6 (refine wpSeq_take (o := ⟨_, _, _, _, _, _⟩) (v := ?_) rfl rfl ?_ ?_; rotate_left; (focus (intro W hW; go_simp; first | done | with_reducible rfl)); simp only [Act.put, List.setIfInBounds_toArray, List.set_cons_zero, List.set_cons_succ])
  refine wpSeq_nil ?_
  go_wp2_with fail
  go_ret2
  exact ⟨rfl, bel_step B2 hb3⟩
set_option maxHeartbeats 4000000 in
theorem refCheck4_any (y m d h_ mi s : Int) (w : World) : Calls Tryz.prog 149 #[.agg #[.int .i64 y, .int .i64 m, .int .i64 d, .int .i64 h_, .int .i64 mi, .int .i64 s]] w fun e w' => e = .returned (.bool (Dt.ok ⟨y, m, d, h_, mi, s⟩)) ∧ Below w.heap.size w w' := by
  have HDY := Lib.hid (fun W => refDays_any y m W)
  have HK : Hid (Dt.ok ⟨y, m, d, h_, mi, s⟩ = (decide (1 ≤ d) && decide (d ≤ daysM y m) && decide (0 ≤ h_) && decide (h_ ≤ 23) && decide (0 ≤ mi) && decide (mi ≤ 59) && decide (0 ≤ s) && decide (s ≤ 59))) := rfl
  generalize daysM y m = D at *
  have B0 := bel_alloc (Below.refl w.heap.size w) (.cells #[.int .i64 y, .int .i64 m, .int .i64 d, .int .i64 h_, .int .i64 mi, .int .i64 s] 80)
  by_cases a0 : 1 ≤ d
  case neg =>
    have e0 : decide (1 ≤ d) = false := by simpa using a0
    rw [e0] at HK
    clear a0
    rw [HK.out]
    go_enter Tryz.func149, Tryz.ntmps149
    go_wp2_with fail
    go_quiet (first | (go_at_call 85; with_reducible exact quiet_same (HDY.out _)))
    go_wp2_with fail
    go_ret
    exact ⟨by simp, Nst.below_drewN B0 _⟩
  case pos =>
    have e0 : decide (1 ≤ d) = true := by simpa using a0
    by_cases a1 : d ≤ D
    case neg =>
      have e1 : decide (d ≤ D) = false := by simpa using a1
      rw [e0, e1] at HK
      clear a0 a1
      rw [HK.out]
      go_enter Tryz.func149, Tryz.ntmps149
      go_wp2_with fail
      go_quiet (first | (go_at_call 85; with_reducible exact quiet_same (HDY.out _)))
      go_wp2_with fail
      go_ret
      exact ⟨by simp, Nst.below_drewN B0 _⟩
    case pos =>
      have e1 : decide (d ≤ D) = true := by simpa using a1
      by_cases a2 : 0 ≤ h_
      case neg =>
        have e2 : decide (0 ≤ h_) = false := by simpa using a2
        rw [e0, e1, e2] at HK
        clear a0 a1 a2
        rw [HK.out]
        go_enter Tryz.func149, Tryz.ntmps149
        go_wp2_with fail
        go_quiet (first | (go_at_call 85; with_reducible exact quiet_same (HDY.out _)))
        go_wp2_with fail
        go_ret
        exact ⟨by simp, Nst.below_drewN B0 _⟩
      case pos =>
        have e2 : decide (0 ≤ h_) = true := by simpa using a2
        by_cases a3 : h_ ≤ 23
        case neg =>
          have e3 : decide (h_ ≤ 23) = false := by simpa using a3
          rw [e0, e1, e2, e3] at HK
          clear a0 a1 a2 a3
          rw [HK.out]
          go_enter Tryz.func149, Tryz.ntmps149
          go_wp2_with fail
          go_quiet (first | (go_at_call 85; with_reducible exact quiet_same (HDY.out _)))
          go_wp2_with fail
          go_ret
          exact ⟨by simp, Nst.below_drewN B0 _⟩
        case pos =>
          have e3 : decide (h_ ≤ 23) = true := by simpa using a3
          by_cases a4 : 0 ≤ mi
          case neg =>
            have e4 : decide (0 ≤ mi) = false := by simpa using a4
            rw [e0, e1, e2, e3, e4] at HK
            clear a0 a1 a2 a3 a4
            rw [HK.out]
            go_enter Tryz.func149, Tryz.ntmps149
            go_wp2_with fail
            go_quiet (first | (go_at_call 85; with_reducible exact quiet_same (HDY.out _)))
            go_wp2_with fail
            go_ret
            exact ⟨by simp, Nst.below_drewN B0 _⟩
          case pos =>
            have e4 : decide (0 ≤ mi) = true := by simpa using a4
            by_cases a5 : mi ≤ 59
            case neg =>
              have e5 : decide (mi ≤ 59) = false := by simpa using a5
              rw [e0, e1, e2, e3, e4, e5] at HK
              clear a0 a1 a2 a3 a4 a5
              rw [HK.out]
              go_enter Tryz.func149, Tryz.ntmps149
              go_wp2_with fail
              go_quiet (first | (go_at_call 85; with_reducible exact quiet_same (HDY.out _)))
              go_wp2_with fail
              go_ret
              exact ⟨by simp, Nst.below_drewN B0 _⟩
            case pos =>
              have e5 : decide (mi ≤ 59) = true := by simpa using a5
              by_cases a6 : 0 ≤ s
              case neg =>
                have e6 : decide (0 ≤ s) = false := by simpa using a6
                rw [e0, e1, e2, e3, e4, e5, e6] at HK
                clear a0 a1 a2 a3 a4 a5 a6
                rw [HK.out]
                go_enter Tryz.func149, Tryz.ntmps149
                go_wp2_with fail
                go_quiet (first | (go_at_call 85; with_reducible exact quiet_same (HDY.out _)))
                go_wp2_with fail
                go_ret
                exact ⟨by simp, Nst.below_drewN B0 _⟩
              case pos =>
                have e6 : decide (0 ≤ s) = true := by simpa using a6
                by_cases a7 : s ≤ 59
                case neg =>
                  have e7 : decide (s ≤ 59) = false := by simpa using a7
                  rw [e0, e1, e2, e3, e4, e5, e6, e7] at HK
                  clear a0 a1 a2 a3 a4 a5 a6 a7
                  rw [HK.out]
                  go_enter Tryz.func149, Tryz.ntmps149
                  go_wp2_with fail
                  go_quiet (first | (go_at_call 85; with_reducible exact quiet_same (HDY.out _)))
                  go_wp2_with fail
                  go_ret
                  exact ⟨by simp, Nst.below_drewN B0 _⟩
                case pos =>
                  have e7 : decide (s ≤ 59) = true := by simpa using a7
                  rw [e0, e1, e2, e3, e4, e5, e6, e7] at HK
                  clear a0 a1 a2 a3 a4 a5 a6 a7
                  rw [HK.out]
                  go_enter Tryz.func149, Tryz.ntmps149
                  go_wp2_with fail
                  go_quiet (first | (go_at_call 85; with_reducible exact quiet_same (HDY.out _)))
                  go_wp2_with fail
                  go_ret
                  exact ⟨by simp, Nst.below_drewN B0 _⟩
end Go.Proofs.YtjjlmkleidbmhaaGreatDoor
end
