/-
  Right, the reference's Right, the law's same.
-/
import Derived.Test.YtleachcokgjocaaUtfD
import Derived.Test.YtleachcokgjocaaShelf
namespace Go.Proofs.Ytleachcokgjocaa
open Go.RowKit Go.Nst
set_option maxRecDepth 100000
set_option linter.unusedVariables false

set_option maxHeartbeats 2000000 in
theorem refRight_any (s : ByteArray) (w : World) (hS : s.size ≤ 1000000) : Calls Try.prog 13 #[.string s] w fun e w' => e = .returned (.bool (rightL (bl s))) ∧ w = w' := by
  generalize ht : rightL (bl s) = tot
  have HT : Hid (tot = rightL (bl s)) := Lib.hid ht.symm
  clear ht
  go_enter Try.func13, Try.ntmps13
  go_wp2_with fail
  go_loop [0] (fun t => ∃ (s' : ByteArray), t = .string s' ∧ s'.size ≤ s.size ∧ Hid (tot = rightL (bl s'))) (fun t => strLen t)
  case atStart => exact ⟨s, rfl, by omega, HT⟩
  case round =>
    obtain ⟨s', rfl, hm, HR⟩ := hrel
    have hbl := bl_len s'
    by_cases hp : 0 < s'.size
    · have hw1 := firstL_width (bl s') (bl_ne hp)
      have HN := Lib.hid (HR.out.trans (rightL_step _ (bl_ne hp)))
      rw [← bl_from] at HN
      have HFst := Lib.hid (first_any s' w hp (by omega))
      have hle : (firstL (bl s')).2 ≤ s'.size := by have := hw1.2.2; omega
      have hr := (firstL_rune (bl s')).1
      generalize firstL (bl s') = f at *
      have hszf := size_from s' f.2
      by_cases c1 : f.1 = 65533
      · by_cases c2 : f.2 = 1
        · have HN : Hid (tot = false) := Lib.hid (by rw [HN.out]; simp [c1, c2])
          have d1 : ((f.1 : Int) == 65533) = true := by simp; omega
          have d2 : ((f.2 : Int) == 1) = true := by simp; omega
          go_wp2_with fail
          refine HFst.out.mono ?_
          rintro e w1 ⟨rfl, rfl⟩
          go_wp2_with fail
          go_ret
          rw [HN.out]
          exact ⟨rfl, rfl⟩
        · have HN : Hid (tot = rightL (bl (s'.extract f.2 s'.size))) := Lib.hid (by rw [HN.out]; simp [c1, c2])
          have d1 : ((f.1 : Int) == 65533) = true := by simp; omega
          have d2 : ((f.2 : Int) == 1) = false := by simp; omega
          go_wp2_with fail
          refine HFst.out.mono ?_
          rintro e w1 ⟨rfl, rfl⟩
          go_wp2_with fail
          go_round
          case rel => exact ⟨s'.extract f.2 s'.size, by simp, by omega, HN⟩
          case measure => simp [strLen]; omega
      · have HN : Hid (tot = rightL (bl (s'.extract f.2 s'.size))) := Lib.hid (by rw [HN.out]; simp [c1])
        have d1 : ((f.1 : Int) == 65533) = false := by simp; omega
        go_wp2_with fail
        refine HFst.out.mono ?_
        rintro e w1 ⟨rfl, rfl⟩
        go_wp2_with fail
        go_round
        case rel => exact ⟨s'.extract f.2 s'.size, by simp, by omega, HN⟩
        case measure => simp [strLen]; omega
    · have HE : Hid (tot = true) := Lib.hid (by rw [HR.out, show bl s' = [] from List.eq_nil_of_length_eq_zero (by omega)]; rfl)
      go_wp2_with fail
      go_ret
      rw [HE.out]
      exact ⟨rfl, rfl⟩

theorem pre_first (t : List UInt8) : firstL (239 :: 191 :: 189 :: t) = (65533, 3) := rfl
theorem first_three_bad (l : List UInt8) (h : (firstL l).1 = 65533) (h2 : (firstL l).2 ≠ 1) : ∃ t, l = 239 :: 191 :: 189 :: t := by
  cases l with
  | nil => exact absurd rfl h2
  | cons c t =>
    have hc := c.toNat_lt
    by_cases a1 : c.toNat < 128
    · simp [firstL, a1] at h2
    by_cases a5 : c.toNat < 192 ∨ 248 ≤ c.toNat
    · rw [first_else c t (by omega) a5] at h2
      exact absurd rfl h2
    have key : ∀ (least n r : Nat) (z : Option Nat), seenT least n z = (65533, r) → r ≠ 1 → z = some 65533 ∧ least ≤ 65533 := by
      intro least n r z hz hr
      cases z with
      | none => simp [seenT] at hz; exact absurd hz.symm hr
      | some y =>
        simp only [seenT] at hz
        split at hz
        · rename_i hh
          simp at hz hh
          exact ⟨by rw [hz.1], by omega⟩
        · simp at hz; exact absurd hz.symm hr
    have e0 : firstL (c :: t) = (65533, (firstL (c :: t)).2) := by rw [← h]
    by_cases a2 : c.toNat < 224
    · rw [first_two c t (by omega) a2] at e0 h2
      split at e0
      · rename_i hh; rw [if_pos hh] at h2; exact absurd rfl h2
      · rename_i hh
        rw [if_neg hh] at h2
        obtain ⟨hz, _⟩ := key _ _ _ _ e0 h2
        have := accT_lt _ _ _ hz
        have hl : (t.take 1).length ≤ 1 := by simp; omega
        have hp : 64 ^ (t.take 1).length ≤ 64 ^ 1 := Nat.pow_le_pow_right (by omega) hl
        have : (c.toNat - 192 + 1) * 64 ^ (t.take 1).length ≤ 32 * 64 ^ 1 := Nat.mul_le_mul (by omega) hp
        omega
    by_cases a3 : c.toNat < 240
    · rw [first_three c t (by omega) a3] at e0 h2
      split at e0
      · rename_i hh; rw [if_pos hh] at h2; exact absurd rfl h2
      · rename_i hh
        rw [if_neg hh] at h2
        obtain ⟨hz, _⟩ := key _ _ _ _ e0 h2
        match t, hh with
        | [], hh => simp at hh
        | [d], hh => simp at hh
        | d :: e :: t, _ =>
          have hd := d.toNat_lt
          have he := e.toNat_lt
          simp only [List.take, accT] at hz
          split at hz
          · rename_i t1
            split at hz
            · rename_i t2
              injection hz with hz
              simp [tailB] at t1 t2
              have q1 : c.toNat = 239 := by omega
              have q2 : d.toNat = 191 := by omega
              have q3 : e.toNat = 189 := by omega
              refine ⟨t, ?_⟩
              rw [show c = 239 from UInt8.toNat_inj.1 q1, show d = 191 from UInt8.toNat_inj.1 q2, show e = 189 from UInt8.toNat_inj.1 q3]
            · cases hz
          · cases hz
    · rw [first_four c t (by omega) (by omega)] at e0 h2
      split at e0
      · rename_i hh; rw [if_pos hh] at h2; exact absurd rfl h2
      · rename_i hh
        rw [if_neg hh] at h2
        obtain ⟨_, hb⟩ := key _ _ _ _ e0 h2
        omega
theorem first_bad (l : List UInt8) (h : (firstL l).1 = 65533) : Lib.hasPrefix l [239, 191, 189] = !((firstL l).2 == 1) := by
  by_cases h2 : (firstL l).2 = 1
  · rw [h2, show (!((1 : Nat) == 1)) = false from rfl, Bool.eq_false_iff]
    intro hp
    simp only [Lib.hasPrefix, List.isPrefixOf_iff_prefix] at hp
    obtain ⟨t, rfl⟩ := hp
    have := pre_first t
    simp only [List.cons_append, List.nil_append] at h2
    rw [this] at h2
    cases h2
  · obtain ⟨t, rfl⟩ := first_three_bad l h h2
    rw [pre_first]
    rfl

theorem take_same {l l2 : List Int} {k : Nat} {z : Int} (h : l.take k = l2.take k) (h1 : l[k]? = some z) (h2 : l2[k]? = some z) : l.take (k + 1) = l2.take (k + 1) := by
  rw [List.take_add_one, List.take_add_one, h, h1, h2]
theorem take_other {l l2 : List Int} {k : Nat} {z z2 : Int} (h1 : l[k]? = some z) (h2 : l2[k]? = some z2) (hne : ¬ z = z2) : (l == l2) = false := by
  rw [Bool.eq_false_iff]
  intro e
  rw [beq_iff_eq] at e
  subst e
  rw [h1] at h2
  injection h2 with h2
  exact hne h2
theorem take_all {l l2 : List Int} {k n : Nat} (h : l.take k = l2.take k) (hk : n ≤ k) (e1 : l.length = n) (e2 : l2.length = n) : (l == l2) = true := by
  rw [List.take_of_length_le (by omega), List.take_of_length_le (by omega)] at h
  rw [beq_iff_eq]
  exact h
theorem drewN_drewN (w : World) (a b : Nat) : (w.drewN a).drewN b = w.drewN (a + b) := by
  simp [World.drewN, Nat.add_assoc]

set_option maxHeartbeats 2000000 in
theorem same_any (A A2 : Option Addr) (n c n2 c2 : Nat) (l l2 : List Int) (w : World) (h1 : Rn w A n l) (h2 : Rn w A2 n2 l2) (hn : n ≤ 1000000) (hn2 : n2 ≤ 1000000) :
    Calls Try.prog 9 #[.slice A n c, .slice A2 n2 c2] w fun e w' => e = .returned (.bool (l == l2)) ∧ Below w.heap.size w w' := by
  have e1 := h1.len
  have e2 := h2.len
  by_cases hnn : n = n2
  · subst hnn
    go_enter Try.func9, Try.ntmps9
    go_wp2_with fail
    go_loopw [5] (fun i wr => ∃ k q : Nat, i = .int .i64 (k : Int) ∧ k ≤ n ∧ wr = w.drewN q ∧ Hid (l.take k = l2.take k)) (fun i _ => n - (intOf i).toNat)
    case atStart => exact ⟨0, 0, rfl, by omega, rfl, Lib.hid rfl⟩
    case round =>
      obtain ⟨k, q, rfl, hk, rfl, HT⟩ := hrel
      by_cases hlt : k < n
      · obtain ⟨z, b, off, rfl, hz, hb, hc⟩ := Rn.at h1 hlt
        obtain ⟨z2, b2, off2, rfl, hz2, hb2, hc2⟩ := Rn.at h2 hlt
        have hcq : (w.drewN q).cell? ⟨b, off + k, none⟩ = some (.int .i32 z) := hc
        have hcq2 : (w.drewN q).cell? ⟨b2, off2 + k, none⟩ = some (.int .i32 z2) := hc2
        by_cases hzz : z = z2
        · subst hzz
          have HN := Lib.hid (take_same HT.out hz.out hz2.out)
          go_wp2_with fail
          go_quiet (fail)
          go_wp2_with fail
          go_roundw
          case rel => exact ⟨k + 1, q + nq, by go_num, by omega, rfl, HN⟩
          case measure => simp [intOf]; omega
        · have HN := Lib.hid (take_other hz.out hz2.out hzz)
          have d1 : (z != z2) = true := by simpa using hzz
          go_wp2_with fail
          go_quiet (fail)
          go_wp2_with fail
          go_ret
          rw [HN.out]
          exact ⟨rfl, below_drewN (below_drewN (Below.refl _ _) q) nq⟩
      · have HN := Lib.hid (take_all HT.out (by omega) e1 e2)
        go_wp2_with fail
        go_ret
        rw [HN.out]
        exact ⟨rfl, below_drewN (Below.refl _ _) q⟩
  · have hne : (l == l2) = false := by
      rw [Bool.eq_false_iff]
      intro e
      rw [beq_iff_eq] at e
      exact hnn (by rw [← e1, ← e2, e])
    generalize (l == l2) = b at *
    have d1 : ((n : Int) != (n2 : Int)) = true := by simp; omega
    go_enter Try.func9, Try.ntmps9
    go_wp2_with fail
    go_ret
    subst hne
    exact ⟨rfl, Below.refl _ _⟩
end Go.Proofs.Ytleachcokgjocaa
