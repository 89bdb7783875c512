/-
  Events shown, the document's side: Name, Digits, quote, Show, Item.
-/
import Derived.Test.YtchcedoaiihnmaaGreatDoorEvP
import Derived.Test.YtchcedoaiihnmaaGreatDoorNam
import Derived.Test.YtchcedoaiihnmaaGreatDoorOrd
import Derived.BigQuiet
namespace Go.Proofs.YtchcedoaiihnmaaGreatDoor
open Go.RowKit Go.Nst
set_option maxRecDepth 100000
set_option linter.unusedVariables false
set_option linter.unusedSimpArgs false

theorem ba_app14 (a b : List UInt8) : (ByteArray.mk a.toArray) ++ (ByteArray.mk b.toArray) = ⟨(a ++ b).toArray⟩ := by
  apply ByteArray.ext
  simp [ByteArray.data_append]
theorem dig_char14 (d : Nat) (h : d < 10) : (ByteArray.mk #[48, 49, 50, 51, 52, 53, 54, 55, 56, 57]).extract d (d + 1) = ⟨#[UInt8.ofNat (48 + d)]⟩ := by
  rcases (by omega : d = 0 ∨ d = 1 ∨ d = 2 ∨ d = 3 ∨ d = 4 ∨ d = 5 ∨ d = 6 ∨ d = 7 ∨ d = 8 ∨ d = 9) with rfl | rfl | rfl | rfl | rfl | rfl | rfl | rfl | rfl | rfl <;> rfl
theorem str_at14 (s : ByteArray) (k : Nat) (w : World) (h : k < s.size) : (Instr.index 9 (.string s) (.int .i64 (k : Int))).run Tryz.prog w = .ok (.int .u8 (((s[k]'h).toNat : Nat) : Int)) w := by
  rw [run_index_string w 9 s .i64 _ Tryz.underlying9, dif_pos (by omega)]
  rfl
theorem dec_len (u : Nat) (h : u < 10 ^ 19) : (Lib.decDigits u).length ≤ 19 := by
  rw [Lib.decDigits_length]
  rcases Nat.lt_or_ge 19 (Lib.nDigits u) with h1 | h1
  · exfalso
    have h2 : 10 ^ (Lib.nDigits u - 1) ≤ u := by
      obtain ⟨k, hk⟩ : ∃ k, Lib.nDigits u = k + 1 := ⟨Lib.nDigits u - 1, by omega⟩
      rcases Nat.lt_or_ge u (10 ^ k) with hlt | hge
      · exfalso
        have : ∀ (k u : Nat), u < 10 ^ k → 1 ≤ k → Lib.nDigits u ≤ k := by
          intro k
          induction k with
          | zero => intro u _ h; omega
          | succ k ih =>
            intro u hu _
            by_cases h10 : u < 10
            · rw [Lib.nDigits_small h10]
              omega
            · rw [Lib.nDigits_big h10]
              have hk : 1 ≤ k := by
                rcases Nat.eq_zero_or_pos k with e | e
                · subst e
                  simp at hu
                  omega
                · exact e
              have := ih (u / 10) (by rw [Nat.pow_succ] at hu; omega) hk
              omega
        have h3 := this k u hlt (by omega)
        omega
      · rw [hk]
        exact hge
    have h3 : (10 : Nat) ^ 19 ≤ 10 ^ (Lib.nDigits u - 1) := Nat.pow_le_pow_right (by omega) (by omega)
    omega
  · exact h1
def emptyN : Value → Nat
  | .string b => if b.size = 0 then 1 else 0
  | _ => 0
set_option maxHeartbeats 4000000 in
theorem digN_any (u : Nat) (w : World) (hu : (u : Int) ≤ 9223372036854775807) : Calls Tryz.prog 32 #[.int .i64 (u : Int)] w fun e w' => e = .returned (.string ⟨(Lib.decDigits u).toArray⟩) ∧ w = w' := by
  have hDL := dec_len u (by omega)
  have t0 : ((u : Int) == -9223372036854775808) = false := by rw [beq_eq_false_iff_ne]; omega
  have t1 : decide ((u : Int) < 0) = false := by rw [decide_eq_false_iff_not]; omega
  obtain ⟨D, hD⟩ : ∃ D, Lib.decDigits u = D := ⟨_, rfl⟩
  rw [hD] at hDL ⊢
  have HD := Lib.hid hD
  clear hD
  go_enter Tryz.func32, Tryz.ntmps32
  go_wp2_with fail
  go_loop [0, 3] (fun n s => ∃ (q : Nat) (L : List UInt8), n = .int .i64 (q : Int) ∧ s = .string ⟨L.toArray⟩ ∧ q ≤ u ∧ L.length ≤ 19 ∧ Hid (D = if L = [] then Lib.decDigits q else if q = 0 then L else Lib.decDigits q ++ L)) (fun n s => (intOf n).toNat * 2 + emptyN s)
  case atStart => exact ⟨u, [], rfl, rfl, by omega, by simp, Lib.hid (by rw [if_pos rfl]; exact HD.out.symm)⟩
  case round =>
    obtain ⟨q, L, rfl, rfl, hq, hL, HI⟩ := hrel
    have hmain : ∀ (h : ¬ (q = 0 ∧ L ≠ [])), Hid (D = if UInt8.ofNat (48 + q % 10) :: L = [] then Lib.decDigits (q / 10) else if q / 10 = 0 then UInt8.ofNat (48 + q % 10) :: L else Lib.decDigits (q / 10) ++ UInt8.ofNat (48 + q % 10) :: L) := by
      intro h
      have h0 := HI.out
      have hdq : Lib.decDigits q = if q / 10 = 0 then [UInt8.ofNat (48 + q % 10)] else Lib.decDigits (q / 10) ++ [UInt8.ofNat (48 + q % 10)] := by
        conv => lhs; rw [Lib.decDigits]
        by_cases h10 : q < 10
        · rw [dif_pos h10, if_pos (by omega), Nat.mod_eq_of_lt h10]
        · rw [dif_neg h10, if_neg (by omega)]
      refine Lib.hid ?_
      rw [if_neg (by simp), h0]
      by_cases hl : L = []
      · subst hl
        rw [if_pos rfl, hdq]
      · have hq0 : q ≠ 0 := fun e => h ⟨e, hl⟩
        rw [if_neg hl, if_neg hq0, hdq]
        split
        · rfl
        · simp
    have hlen : ¬ (q = 0 ∧ L ≠ []) → L.length < 19 := by
      intro h
      have h0 := HI.out
      by_cases hl : L = []
      · subst hl; simp
      · rw [if_neg hl, if_neg (fun e => h ⟨e, hl⟩)] at h0
        have h2 := congrArg List.length h0
        rw [List.length_append] at h2
        have h3 : 1 ≤ (Lib.decDigits q).length := by rw [Lib.decDigits_length]; exact Lib.nDigits_pos q
        omega
    by_cases hend : q = 0 ∧ L ≠ []
    · obtain ⟨rfl, hl⟩ := hend
      have HE : Hid (D = L) := Lib.hid (by have h0 := HI.out; rw [if_neg hl, if_pos rfl] at h0; exact h0)
      have e1 : (L == []) = false := by simpa using hl
      have e2 : L.isEmpty = false := by cases L with | nil => exact absurd rfl hl | cons a t => rfl
      clear hmain hlen hl HI
      go_wp2_with fail
      go_ret
      rw [HE.out]
      exact ⟨rfl, rfl⟩
    · have HN := hmain hend
      have hl2 := hlen hend
      by_cases hq0 : q = 0
      · subst hq0
        have hl : L = [] := by
          by_cases h : L = []
          · exact h
          · exact absurd ⟨rfl, h⟩ hend
        subst hl
        have HN0 : Hid (D = if [(48 : UInt8)] = [] then Lib.decDigits 0 else if (0 : Nat) = 0 then [48] else Lib.decDigits 0 ++ [48]) := HN
        clear hend hmain hlen HI HN
        go_wp2_with fail
        go_round
        case rel => exact ⟨0, [48], rfl, rfl, by omega, by simp, HN0⟩
        case measure => first | decide | decide +kernel
      obtain ⟨d, hd⟩ : ∃ d : Nat, q % 10 = d := ⟨_, rfl⟩
      have hd10 : d < 10 := by omega
      have t1 : ((q : Int)).tmod 10 = (d : Int) := by rw [Int.tmod_eq_emod_of_nonneg (by omega)]; omega
      have t2 : ((q : Int)).tdiv 10 = ((q / 10 : Nat) : Int) := by rw [Int.tdiv_eq_ediv_of_nonneg (by omega)]; rfl
      have t3 : IntKind.i64.wrap ((q : Int) / 10) = ((q / 10 : Nat) : Int) := by rw [IntWalk.i64_in _ (by omega)]; rfl
      have t4 : (q : Int) / 10 = ((q / 10 : Nat) : Int) := rfl
      have hch := dig_char14 d hd10
      have HS : Hid ((ByteArray.mk #[UInt8.ofNat (48 + d)]) ++ (ByteArray.mk L.toArray) = ⟨(UInt8.ofNat (48 + d) :: L).toArray⟩) := Lib.hid (by
        rw [show ByteArray.mk #[UInt8.ofNat (48 + d)] = ⟨[UInt8.ofNat (48 + d)].toArray⟩ from rfl, ba_app14]
        rfl)
      rw [hd] at HN
      have hq2 : q / 10 ≤ u := by omega
      have hms : (q / 10) < q := by omega
      have HMS := Lib.hid hms
      generalize UInt8.ofNat (48 + d) = c at *
      obtain ⟨q', hq'⟩ : ∃ q', q / 10 = q' := ⟨_, rfl⟩
      rw [hq'] at t2 t3 t4 hq2 HN HMS
      clear hd hmain hlen HI hms hq' t4
      have t5 : decide ((0 : Int) < (q : Int)) = true := by simp; omega
      have t5b : decide (0 < q) = true := by simp; omega
      clear hend
      go_wp2_with fail
      go_round
      case rel => exact ⟨q', c :: L, by first | rfl | (rw [t3]), by first | rfl | rw [HS.out], hq2, by simp; omega, HN⟩
      case measure =>
        have h9 := HMS.out
        simp [intOf, emptyN, t3]
        try omega
        try (split <;> omega)
theorem l_min : Lib.itoa (-9223372036854775808) = [45, 57, 50, 50, 51, 51, 55, 50, 48, 51, 54, 56, 53, 52, 55, 55, 53, 56, 48, 56] := by decide +kernel
set_option maxHeartbeats 4000000 in
theorem refDigits14_any (n : Int) (w : World) (h0 : -9223372036854775808 ≤ n) (h1 : n ≤ 9223372036854775807) : Calls Tryz.prog 32 #[.int .i64 n] w fun e w' => e = .returned (.string ⟨(Lib.itoa n).toArray⟩) ∧ w = w' := by
  by_cases hm : n = -9223372036854775808
  · subst hm
    rw [l_min]
    go_enter Tryz.func32, Tryz.ntmps32
    go_wp2_with fail
    go_ret
    exact ⟨rfl, rfl⟩
  · by_cases hn : n < 0
    · obtain ⟨u, hu⟩ : ∃ u : Nat, n = -(u : Int) := ⟨n.natAbs, by omega⟩
      subst hu
      have HD := Lib.hid (digN_any u w (by omega))
      have hl := dec_len u (by omega)
      rw [Lib.itoa_neg u (by omega)]
      have t0 : ((-(u : Int)) == -9223372036854775808) = false := by simp; omega
      have t1 : decide (-(u : Int) < 0) = true := by simp; omega
      have t2 : IntKind.i64.wrap (u : Int) = (u : Int) := IntWalk.i64_in _ (by omega)
      generalize Lib.decDigits u = D at *
      go_enter Tryz.func32, Tryz.ntmps32
      go_wp2_with fail
      (with_reducible refine (HD.out).mono ?_)
      rintro e w1 ⟨rfl, rfl⟩
      go_wp2_with fail
      go_ret
      exact ⟨by rw [show (ByteArray.mk #[45]) = ⟨[45].toArray⟩ from rfl, ba_app14]; rfl, rfl⟩
    · obtain ⟨u, rfl⟩ := Int.eq_ofNat_of_zero_le (show 0 ≤ n by omega)
      rw [Lib.itoa_nonneg]
      exact digN_any u w h1
set_option maxHeartbeats 4000000 in
theorem refQuote14_any (l : List UInt8) (w : World) (hl : l.length ≤ 20000) : Calls Tryz.prog 33 #[.string ⟨l.toArray⟩] w fun e w' => e = .returned (.string ⟨(quoteL l).toArray⟩) ∧ w = w' := by
  obtain ⟨S, hS⟩ : ∃ S, ByteArray.mk l.toArray = S := ⟨_, rfl⟩
  have hsz : S.size = l.length := by rw [← hS, size_of]
  have hbl : bl S = l := by rw [← hS, bl_of]
  rw [hS]
  have HSZ := Lib.hid hsz
  have HBL := Lib.hid hbl
  have hSle : S.size ≤ 20000 := by omega
  have HQ : Hid (quoteL l = 34 :: (l.flatMap quoteB ++ [34])) := rfl
  clear hsz hbl hS
  go_enter Tryz.func33, Tryz.ntmps33
  go_wp2_with fail
  go_loop [3, 4] (fun o i => ∃ (k : Nat) (L : List UInt8), i = .int .i64 (k : Int) ∧ o = .string ⟨L.toArray⟩ ∧ k ≤ S.size ∧ L.length ≤ 2 * k + 1 ∧ Hid (L = 34 :: (l.take k).flatMap quoteB)) (fun _ i => S.size - (intOf i).toNat)
  case atStart => exact ⟨0, [34], rfl, rfl, by omega, by simp, Lib.hid rfl⟩
  case round =>
    obtain ⟨k, L, rfl, rfl, hk, hL, HI⟩ := hrel
    by_cases hlt : k < S.size
    · have hix := fun W => str_at14 S k W hlt
      have hg : l[k]? = some (S[k]'hlt) := by rw [← HBL.out]; exact bl_get S k hlt
      have hex : Hid (S.extract k (k + 1) = ⟨[S[k]'hlt].toArray⟩) := Lib.hid (by
        rw [str_mid, HBL.out, show k + 1 - k = 1 by omega, List.drop_eq_getElem_cons (by rw [← HSZ.out]; exact hlt)]
        rw [List.getElem?_eq_getElem (by rw [← HSZ.out]; exact hlt)] at hg
        injection hg with hg
        rw [hg]
        rfl)
      generalize S[k]'hlt = c at *
      have HT : Hid (l.take (k + 1) = l.take k ++ [c]) := Lib.hid (by rw [List.take_add_one, hg]; rfl)
      obtain ⟨X, hX⟩ : ∃ X, S.extract k (k + 1) = X := ⟨_, rfl⟩
      have HX : Hid (X = ⟨[c].toArray⟩) := Lib.hid (by rw [← hX]; exact hex.out)
      have hXs : X.size = 1 := by rw [HX.out]; rfl
      clear hg hex
      by_cases h92 : c = 92
      · subst h92
        have HN : Hid (L ++ [92, 92] = 34 :: (l.take (k + 1)).flatMap quoteB) := Lib.hid (by rw [HT.out, HI.out, List.flatMap_append]; simp [quoteB])
        clear HI HT
        go_wp2_with fail
        go_round
        case rel => exact ⟨k + 1, L ++ [92, 92], by go_num, by rw [HX.out, show (ByteArray.mk #[92]) = ⟨[92].toArray⟩ from rfl, ba_app14, ba_app14]; simp, by omega, by simp; omega, HN⟩
        case measure => simp [intOf]; omega
      · by_cases h34 : c = 34
        · subst h34
          have HN : Hid (L ++ [92, 34] = 34 :: (l.take (k + 1)).flatMap quoteB) := Lib.hid (by rw [HT.out, HI.out, List.flatMap_append]; simp [quoteB])
          clear HI HT
          go_wp2_with fail
          go_round
          case rel => exact ⟨k + 1, L ++ [92, 34], by go_num, by rw [HX.out, show (ByteArray.mk #[92]) = ⟨[92].toArray⟩ from rfl, ba_app14, ba_app14]; simp, by omega, by simp; omega, HN⟩
          case measure => simp [intOf]; omega
        · have HN : Hid (L ++ [c] = 34 :: (l.take (k + 1)).flatMap quoteB) := Lib.hid (by rw [HT.out, HI.out, List.flatMap_append]; simp [quoteB, h92, h34])
          have n92 : c.toNat ≠ 92 := fun e => h92 (UInt8.toNat_inj.1 e)
          have n34 : c.toNat ≠ 34 := fun e => h34 (UInt8.toNat_inj.1 e)
          have u92 : (((c.toNat : Nat) : Int) == 92) = false := by simp; omega
          have u34 : (((c.toNat : Nat) : Int) == 34) = false := by simp; omega
          clear HI HT n92 n34 h92 h34
          go_wp2_with fail
          go_round
          case rel => exact ⟨k + 1, L ++ [c], by go_num, by rw [HX.out, ba_app14], by omega, by simp; omega, HN⟩
          case measure => simp [intOf]; omega
    · have HE : Hid (quoteL l = L ++ [34]) := Lib.hid (by rw [HQ.out, HI.out, List.take_of_length_le (by rw [← HSZ.out]; omega)]; rfl)
      clear HI HQ
      go_wp2_with fail
      go_ret
      rw [HE.out]
      exact ⟨rfl, rfl⟩
set_option maxHeartbeats 4000000 in
theorem refName14_any (k : Int) (w : World) : Calls Tryz.prog 12 #[.int .i64 k] w fun e w' => e = .returned (.string ⟨(nameK k).toArray⟩) ∧ Below w.heap.size w w' := by
  have B0 := bel_alloc (Below.refl w.heap.size w) (.cells #[.string ⟨#[102, 111, 108, 100, 101, 114]⟩, .string ⟨#[117, 110, 102, 111, 108, 100, 101, 114]⟩, .string ⟨#[102, 101, 101, 100]⟩, .string ⟨#[117, 110, 102, 101, 101, 100]⟩, .string ⟨#[116, 105, 116, 108, 101]⟩, .string ⟨#[109, 111, 118, 101]⟩, .string ⟨#[105, 116, 101, 109]⟩, .string ⟨#[114, 101, 97, 100]⟩, .string ⟨#[115, 116, 97, 114]⟩, .string ⟨#[116, 97, 103]⟩, .string ⟨#[115, 101, 97, 114, 99, 104]⟩, .string ⟨#[117, 110, 115, 101, 97, 114, 99, 104]⟩, .string ⟨#[99, 108, 111, 99, 107]⟩] 9)
  by_cases hk : 1 ≤ k ∧ k ≤ 13
  · obtain ⟨j, rfl⟩ := Int.eq_ofNat_of_zero_le (show 0 ≤ k by omega)
    have hj : j = 1 ∨ j = 2 ∨ j = 3 ∨ j = 4 ∨ j = 5 ∨ j = 6 ∨ j = 7 ∨ j = 8 ∨ j = 9 ∨ j = 10 ∨ j = 11 ∨ j = 12 ∨ j = 13 := by omega
    clear hk
    rcases hj with rfl | rfl | rfl | rfl | rfl | rfl | rfl | rfl | rfl | rfl | rfl | rfl | rfl
    all_goals
      go_enter Tryz.func12, Tryz.ntmps12
      go_wp2_with fail
      go_ret
      exact ⟨rfl, B0⟩
  · have HV : Hid (nameK k = []) := Lib.hid (by unfold nameK; rw [if_neg hk])
    by_cases h1 : k < 1
    · have d1 : decide (k < 1) = true := by simpa using h1
      go_enter Tryz.func12, Tryz.ntmps12
      go_wp2_with fail
      go_ret
      rw [HV.out]
      exact ⟨rfl, B0⟩
    · have d1 : decide (k < 1) = false := by simpa using h1
      have d2 : decide (13 < k) = true := by simp; omega
      go_enter Tryz.func12, Tryz.ntmps12
      go_wp2_with fail
      go_ret
      rw [HV.out]
      exact ⟨rfl, B0⟩
end Go.Proofs.YtchcedoaiihnmaaGreatDoor
