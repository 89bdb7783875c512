/-
  entity.digit, number, right, Sign; the reference's.
  entity.right, entity.Sign; the reference's Sign.
  entity.Write, Plain; the reference's Write.
  entity.Read, the reference's Read.
  The reference's Read.
-/
import Derived.Test.YtjmmgekildlckaaEntP
import Derived.Test.YtjmmgekildlckaaUt2
import Derived.Test.YtjmmgekildlckaaBas
import Derived.IntWalk
section
namespace Go.Proofs.Ytjmmgekildlckaa
open Go.RowKit Go.Nst
set_option maxRecDepth 100000
set_option linter.unusedVariables false
set_option linter.unusedSimpArgs false

theorem digV_split (c : Int) : (48 ≤ c ∧ c ≤ 57 ∧ digV c = c - 48) ∨ (c < 48 ∧ digV c = -1) ∨ (57 < c ∧ c < 65 ∧ digV c = -1) ∨ (65 ≤ c ∧ c ≤ 70 ∧ digV c = c - 65 + 10) ∨ (70 < c ∧ c < 97 ∧ digV c = -1) ∨ (97 ≤ c ∧ c ≤ 102 ∧ digV c = c - 97 + 10) ∨ (102 < c ∧ digV c = -1) := by
  unfold digV
  (repeat' split) <;> omega
set_option maxHeartbeats 4000000 in
theorem refDigit_any (c base : Int) (w : World) (hb0 : 2 ≤ base) (hb : base ≤ 16) (hc0 : 0 ≤ c) (hc1 : c ≤ 255) : Calls Try.prog 74 #[.int .u8 c, .int .i64 base] w fun e w' => e = .returned (.int .i64 (digB c base)) ∧ w = w' := by
  have HD : Hid (digB c base = if base ≤ digV c then -1 else digV c) := rfl
  rcases digV_split c with ⟨r1, r2, hv⟩ | ⟨r1, hv⟩ | ⟨r1, r2, hv⟩ | ⟨r1, r2, hv⟩ | ⟨r1, r2, hv⟩ | ⟨r1, r2, hv⟩ | ⟨r1, hv⟩
  · rw [hv] at HD
    clear hv
    have g48 : decide ((48 : Int) ≤ c) = true := by simp; omega
    have g57 : decide (c ≤ (57 : Int)) = true := by simp; omega
    have g97 : decide ((97 : Int) ≤ c) = false := by simp; omega
    have g102 : decide (c ≤ (102 : Int)) = true := by simp; omega
    have g65 : decide ((65 : Int) ≤ c) = false := by simp; omega
    have g70 : decide (c ≤ (70 : Int)) = true := by simp; omega
    by_cases hbb : base ≤ c - 48
    · have HD : Hid (digB c base = -1) := Lib.hid (by rw [HD.out, if_pos hbb])
      have gb : decide (base ≤ c - 48) = true := by simp; omega
      go_enter Try.func74, Try.ntmps74
      go_wp2_with fail
      go_ret
      exact ⟨by rw [HD.out]; rfl, rfl⟩
    · have HD : Hid (digB c base = c - 48) := Lib.hid (by rw [HD.out, if_neg hbb])
      have gb : decide (base ≤ c - 48) = false := by simp; omega
      go_enter Try.func74, Try.ntmps74
      go_wp2_with fail
      go_ret
      exact ⟨by rw [HD.out]; rfl, rfl⟩
  · rw [hv] at HD
    clear hv
    have g48 : decide ((48 : Int) ≤ c) = false := by simp; omega
    have g57 : decide (c ≤ (57 : Int)) = true := by simp; omega
    have g97 : decide ((97 : Int) ≤ c) = false := by simp; omega
    have g102 : decide (c ≤ (102 : Int)) = true := by simp; omega
    have g65 : decide ((65 : Int) ≤ c) = false := by simp; omega
    have g70 : decide (c ≤ (70 : Int)) = true := by simp; omega
    have HD : Hid (digB c base = -1) := Lib.hid (by rw [HD.out]; split <;> rfl)
    have gb : decide (base ≤ -1) = false := by simp; omega
    go_enter Try.func74, Try.ntmps74
    go_wp2_with fail
    go_ret
    exact ⟨by rw [HD.out]; rfl, rfl⟩
  · rw [hv] at HD
    clear hv
    have g48 : decide ((48 : Int) ≤ c) = true := by simp; omega
    have g57 : decide (c ≤ (57 : Int)) = false := by simp; omega
    have g97 : decide ((97 : Int) ≤ c) = false := by simp; omega
    have g102 : decide (c ≤ (102 : Int)) = true := by simp; omega
    have g65 : decide ((65 : Int) ≤ c) = false := by simp; omega
    have g70 : decide (c ≤ (70 : Int)) = true := by simp; omega
    have HD : Hid (digB c base = -1) := Lib.hid (by rw [HD.out]; split <;> rfl)
    have gb : decide (base ≤ -1) = false := by simp; omega
    go_enter Try.func74, Try.ntmps74
    go_wp2_with fail
    go_ret
    exact ⟨by rw [HD.out]; rfl, rfl⟩
  · rw [hv] at HD
    clear hv
    have g48 : decide ((48 : Int) ≤ c) = true := by simp; omega
    have g57 : decide (c ≤ (57 : Int)) = false := by simp; omega
    have g97 : decide ((97 : Int) ≤ c) = false := by simp; omega
    have g102 : decide (c ≤ (102 : Int)) = true := by simp; omega
    have g65 : decide ((65 : Int) ≤ c) = true := by simp; omega
    have g70 : decide (c ≤ (70 : Int)) = true := by simp; omega
    by_cases hbb : base ≤ c - 65 + 10
    · have HD : Hid (digB c base = -1) := Lib.hid (by rw [HD.out, if_pos hbb])
      have gb : decide (base ≤ c - 65 + 10) = true := by simp; omega
      go_enter Try.func74, Try.ntmps74
      go_wp2_with fail
      go_ret
      exact ⟨by rw [HD.out]; rfl, rfl⟩
    · have HD : Hid (digB c base = c - 65 + 10) := Lib.hid (by rw [HD.out, if_neg hbb])
      have gb : decide (base ≤ c - 65 + 10) = false := by simp; omega
      go_enter Try.func74, Try.ntmps74
      go_wp2_with fail
      go_ret
      exact ⟨by rw [HD.out]; rfl, rfl⟩
  · rw [hv] at HD
    clear hv
    have g48 : decide ((48 : Int) ≤ c) = true := by simp; omega
    have g57 : decide (c ≤ (57 : Int)) = false := by simp; omega
    have g97 : decide ((97 : Int) ≤ c) = false := by simp; omega
    have g102 : decide (c ≤ (102 : Int)) = true := by simp; omega
    have g65 : decide ((65 : Int) ≤ c) = true := by simp; omega
    have g70 : decide (c ≤ (70 : Int)) = false := by simp; omega
    have HD : Hid (digB c base = -1) := Lib.hid (by rw [HD.out]; split <;> rfl)
    have gb : decide (base ≤ -1) = false := by simp; omega
    go_enter Try.func74, Try.ntmps74
    go_wp2_with fail
    go_ret
    exact ⟨by rw [HD.out]; rfl, rfl⟩
  · rw [hv] at HD
    clear hv
    have g48 : decide ((48 : Int) ≤ c) = true := by simp; omega
    have g57 : decide (c ≤ (57 : Int)) = false := by simp; omega
    have g97 : decide ((97 : Int) ≤ c) = true := by simp; omega
    have g102 : decide (c ≤ (102 : Int)) = true := by simp; omega
    have g65 : decide ((65 : Int) ≤ c) = true := by simp; omega
    have g70 : decide (c ≤ (70 : Int)) = false := by simp; omega
    by_cases hbb : base ≤ c - 97 + 10
    · have HD : Hid (digB c base = -1) := Lib.hid (by rw [HD.out, if_pos hbb])
      have gb : decide (base ≤ c - 97 + 10) = true := by simp; omega
      go_enter Try.func74, Try.ntmps74
      go_wp2_with fail
      go_ret
      exact ⟨by rw [HD.out]; rfl, rfl⟩
    · have HD : Hid (digB c base = c - 97 + 10) := Lib.hid (by rw [HD.out, if_neg hbb])
      have gb : decide (base ≤ c - 97 + 10) = false := by simp; omega
      go_enter Try.func74, Try.ntmps74
      go_wp2_with fail
      go_ret
      exact ⟨by rw [HD.out]; rfl, rfl⟩
  · rw [hv] at HD
    clear hv
    have g48 : decide ((48 : Int) ≤ c) = true := by simp; omega
    have g57 : decide (c ≤ (57 : Int)) = false := by simp; omega
    have g97 : decide ((97 : Int) ≤ c) = true := by simp; omega
    have g102 : decide (c ≤ (102 : Int)) = false := by simp; omega
    have g65 : decide ((65 : Int) ≤ c) = true := by simp; omega
    have g70 : decide (c ≤ (70 : Int)) = false := by simp; omega
    have HD : Hid (digB c base = -1) := Lib.hid (by rw [HD.out]; split <;> rfl)
    have gb : decide (base ≤ -1) = false := by simp; omega
    go_enter Try.func74, Try.ntmps74
    go_wp2_with fail
    go_ret
    exact ⟨by rw [HD.out]; rfl, rfl⟩

theorem num_round {base n : Int} {l : List UInt8} {pos : Nat} {u : UInt8} {tot : Int} (h : tot = numGo base n (l.drop pos)) (hu : l[pos]? = some u) (hd : ¬ digB (u.toNat : Int) base < 0) : tot = numGo base (base * n + digB (u.toNat : Int) base) (l.drop (pos + 1)) := by
  rw [h, List.drop_eq_getElem_cons (List.getElem?_eq_some_iff.1 hu).1, (List.getElem?_eq_some_iff.1 hu).2]
  simp only [numGo]
  rw [if_neg hd]
theorem num_stop {base n : Int} {l : List UInt8} {pos : Nat} {u : UInt8} {tot : Int} (h : tot = numGo base n (l.drop pos)) (hu : l[pos]? = some u) (hd : digB (u.toNat : Int) base < 0) : tot = -1 := by
  rw [h, List.drop_eq_getElem_cons (List.getElem?_eq_some_iff.1 hu).1, (List.getElem?_eq_some_iff.1 hu).2]
  simp only [numGo]
  rw [if_pos hd]
theorem num_end {base n : Int} {l : List UInt8} {pos : Nat} {tot : Int} (h : tot = numGo base n (l.drop pos)) (hp : l.length ≤ pos) : tot = n := by
  rw [h, List.drop_of_length_le hp]
  rfl
/-- the number so far is small -/
theorem num_small {base n d : Int} {k : Nat} (hb : 2 ≤ base ∧ base ≤ 16) (hn : 0 ≤ n) (hk : n < 16 ^ k) (hk7 : k < 7) (hd : 0 ≤ d ∧ d ≤ 15) : 0 ≤ base * n ∧ base * n + d < 16 ^ (k + 1) ∧ base * n ≤ 268435456 ∧ base * n + d ≤ 268435471 ∧ base * n + d ≤ 268435456 := by
  have h0 : 0 ≤ base * n := Int.mul_nonneg (by omega) hn
  have h1 : base * n ≤ 16 * n := Int.mul_le_mul_of_nonneg_right hb.2 hn
  have e1 : (16 : Int) ^ (k + 1) = 16 * 16 ^ k := by rw [Int.pow_succ, Int.mul_comm]
  have he : (16 : Int) ^ k = ((16 ^ k : Nat) : Int) := by simp
  have hp : (16 : Nat) ^ k ≤ 16 ^ 6 := Nat.pow_le_pow_right (by omega) (by omega)
  rw [e1]
  rw [he] at hk ⊢
  generalize 16 ^ k = q at *
  omega

set_option maxHeartbeats 4000000 in
theorem refNumber_any7 (s : ByteArray) (base most : Int) (w : World) (hb : 2 ≤ base ∧ base ≤ 16) (hm : 0 ≤ most ∧ most ≤ 7) (hS : s.size ≤ 1000000) : Calls Try.prog 68 #[.string s, .int .i64 base, .int .i64 most] w fun e w' => e = .returned (.int .i64 (numberL (bl s) base most)) ∧ w = w' := by
  have hbl := bl_len s
  by_cases h0 : s.size = 0
  · have e0 : bl s = [] := List.eq_nil_of_length_eq_zero (by omega)
    have HE : Hid (numberL (bl s) base most = -1) := Lib.hid (by unfold numberL; rw [if_pos (.inl e0)])
    have d0 : decide ((s.size : Int) < 1) = true := by simp; omega
    have H0 := Lib.hid h0
    clear h0 e0 hbl
    go_enter Try.func68, Try.ntmps68
    go_wp2_with fail
    go_ret
    exact ⟨by rw [HE.out]; rfl, rfl⟩
  have hne2 : ¬ bl s = [] := fun e => h0 (by rw [← hbl, e]; rfl)
  have d0 : decide ((s.size : Int) < 1) = false := by simp; omega
  by_cases hms : most < (s.size : Int)
  · have HE : Hid (numberL (bl s) base most = -1) := Lib.hid (by unfold numberL; rw [if_pos (.inr (by rw [hbl]; exact hms))])
    have d1 : decide (most < (s.size : Int)) = true := by simp; omega
    go_enter Try.func68, Try.ntmps68
    go_wp2_with fail
    go_ret
    exact ⟨by rw [HE.out]; rfl, rfl⟩
  have d1 : decide (most < (s.size : Int)) = false := by simp; omega
  obtain ⟨tot, htot⟩ : ∃ tot, numberL (bl s) base most = tot := ⟨_, rfl⟩
  have HT : Hid (tot = numGo base 0 ((bl s).drop 0)) := Lib.hid (by rw [← htot]; unfold numberL; rw [if_neg (by rw [hbl]; rintro (h | h); (· exact hne2 h); (· omega))]; rfl)
  rw [htot]
  have HNE := Lib.hid hne2
  clear htot hne2 h0
  go_enter Try.func68, Try.ntmps68
  go_wp2_with fail
  go_loop [7, 8] (fun v i => ∃ (pos : Nat) (n : Int), v = .int .i64 n ∧ i = .int .i64 (pos : Int) ∧ pos ≤ s.size ∧ 0 ≤ n ∧ n ≤ 268435456 ∧ Hid (n < 16 ^ pos ∧ tot = numGo base n ((bl s).drop pos))) (fun _ i => s.size - (intOf i).toNat)
  case atStart => exact ⟨0, 0, rfl, rfl, by omega, by omega, by omega, Lib.hid ⟨by decide, HT.out⟩⟩
  case round =>
    obtain ⟨pos, n, rfl, rfl, hps, hn0, hn1, HR⟩ := hrel
    by_cases hp : pos < s.size
    · have hu := bl_get s pos hp
      obtain ⟨u, hu0⟩ : ∃ u, s[pos] = u := ⟨_, rfl⟩
      rw [hu0] at hu
      have HU := Lib.hid hu
      have hu8 := u.toNat_lt
      clear hu
      have HC := Lib.hid (refDigit_any (u.toNat : Int) base w hb.1 hb.2 (by omega) (by omega))
      by_cases hd : digB (u.toNat : Int) base < 0
      · have HE := Lib.hid (num_stop HR.out.2 HU.out hd)
        generalize digB (u.toNat : Int) base = d at *
        have dd : decide (d < 0) = true := by simp; omega
        go_wp2_with fail
        refine HC.out.mono ?_
        rintro e w1 ⟨rfl, rfl⟩
        go_wp2_with fail
        go_ret
        exact ⟨by rw [HE.out]; rfl, rfl⟩
      · have HN := Lib.hid (num_round HR.out.2 HU.out hd)
        have hdb := digB_bd (u.toNat : Int) base
        have hsm := num_small (d := digB (u.toNat : Int) base) hb hn0 HR.out.1 (by omega) (by omega)
        have HS := Lib.hid hsm.2.1
        generalize digB (u.toNat : Int) base = d at *
        have dd : decide (d < 0) = false := by simp; omega
        obtain ⟨hs1, hs2, hs3, hs4, hs5⟩ := hsm
        generalize hbn : base * n = bn at *
        clear hs2
        have hbn : IntKind.i64.wrap (base * n) = bn := by rw [hbn]; exact IntWalk.i64_in _ (by omega)
        go_wp2_with fail
        refine HC.out.mono ?_
        rintro e w1 ⟨rfl, rfl⟩
        go_wp2_with fail
        go_round
        case rel => exact ⟨pos + 1, bn + d, rfl, by go_num, by omega, by omega, hs5, Lib.hid ⟨HS.out, HN.out⟩⟩
        case measure => simp [intOf]; omega
    · have HE := Lib.hid (num_end HR.out.2 (by omega))
      go_wp2_with fail
      go_ret
      exact ⟨by rw [HE.out]; rfl, rfl⟩
end Go.Proofs.Ytjmmgekildlckaa
end
section
namespace Go.Proofs.Ytjmmgekildlckaa
open Go.RowKit Go.Nst
set_option maxRecDepth 100000
set_option linter.unusedVariables false
set_option linter.unusedSimpArgs false

theorem encode_bytes (r : Nat) : Utf8.encode (r : Int) = ⟨(Lib.encodeRune (r : Int)).toArray⟩ := by
  unfold Lib.encodeRune
  by_cases hb : (55296 ≤ r ∧ r ≤ 57343) ∨ 1114111 < r
  · have v : Utf8.valid (r : Int) = false := by simp [Utf8.valid]; omega
    rw [Lib.encodeRuneZ_bad (by omega)]
    simp [Utf8.encode, v, Utf8.runeError]
  have v : Utf8.valid (r : Int) = true := by simp [Utf8.valid]; omega
  by_cases c1 : r < 128
  · rw [Lib.encodeRuneZ_one (by omega) (by omega)]
    simp [Utf8.encode, v, c1]
  by_cases c2 : r < 2048
  · rw [Lib.encodeRuneZ_two (by omega) (by omega)]
    have e1 : (192 + (r : Int) / 64).toNat = 192 + r / 64 := by omega
    have e2 : (128 + (r : Int) % 64).toNat = 128 + r % 64 := by omega
    simp only [List.map_cons, List.map_nil, e1, e2]
    simp [Utf8.encode, v, c1, c2]
  by_cases c3 : r < 65536
  · rw [Lib.encodeRuneZ_three (by omega)]
    have e1 : (224 + (r : Int) / 4096).toNat = 224 + r / 4096 := by omega
    have e2 : (128 + (r : Int) / 64 % 64).toNat = 128 + r / 64 % 64 := by omega
    have e3 : (128 + (r : Int) % 64).toNat = 128 + r % 64 := by omega
    simp only [List.map_cons, List.map_nil, e1, e2, e3]
    simp [Utf8.encode, v, c1, c2, c3]
  · rw [Lib.encodeRuneZ_four (by omega) (by omega)]
    have e1 : (240 + (r : Int) / 262144).toNat = 240 + r / 262144 := by omega
    have e2 : (128 + (r : Int) / 4096 % 64).toNat = 128 + r / 4096 % 64 := by omega
    have e3 : (128 + (r : Int) / 64 % 64).toNat = 128 + r / 64 % 64 := by omega
    have e4 : (128 + (r : Int) % 64).toNat = 128 + r % 64 := by omega
    simp only [List.map_cons, List.map_nil, e1, e2, e3, e4]
    simp [Utf8.encode, v, c1, c2, c3]
/-- what 'right' says -/
def rgtB (n : Int) : Bool := n == 9 || n == 10 || n == 13 || (decide (32 ≤ n) && (Lib.encodeRune n != [239, 191, 189]))
theorem enc_bad {n : Int} (h0 : 0 ≤ n) (h : Lib.encodeRune n = [239, 191, 189]) : n = 65533 ∨ ¬ (n ≤ 1114111 ∧ ¬ (55296 ≤ n ∧ n ≤ 57343)) := by
  have h1 := first_enc n []
  rw [List.append_nil, h] at h1
  have h2 : firstL [239, 191, 189] = (65533, 3) := by decide
  rw [h2] at h1
  injection h1 with h1 _
  unfold normR at h1
  split at h1
  · left; omega
  · right; omega
theorem enc_good {n : Int} (h0 : 0 ≤ n) (h : ¬ (n ≤ 1114111 ∧ ¬ (55296 ≤ n ∧ n ≤ 57343))) : Lib.encodeRune n = [239, 191, 189] := by
  unfold Lib.encodeRune
  rw [Lib.encodeRuneZ_bad (by omega)]
  decide
theorem rgt_ok {n : Int} (h0 : 0 ≤ n) : (if rgtB n then n else 65533) = (if okSign n then n else 65533) := by
  by_cases h1 : n = 9 ∨ n = 10 ∨ n = 13
  · rcases h1 with rfl | rfl | rfl <;> rfl
  have e1 : rgtB n = (decide (32 ≤ n) && (Lib.encodeRune n != [239, 191, 189])) := by
    unfold rgtB
    have a : (n == 9) = false := by simp; omega
    have b : (n == 10) = false := by simp; omega
    have c : (n == 13) = false := by simp; omega
    rw [a, b, c]
    rfl
  have e2 : okSign n = (decide (32 ≤ n) && decide (n ≤ 1114111) && !(decide (55296 ≤ n) && decide (n ≤ 57343))) := by
    unfold okSign
    have a : (n == 9) = false := by simp; omega
    have b : (n == 10) = false := by simp; omega
    have c : (n == 13) = false := by simp; omega
    rw [a, b, c]
    rfl
  rw [e1, e2]
  by_cases h32 : 32 ≤ n
  · by_cases hv : n ≤ 1114111 ∧ ¬ (55296 ≤ n ∧ n ≤ 57343)
    · have hr : (decide (32 ≤ n) && decide (n ≤ 1114111) && !(decide (55296 ≤ n) && decide (n ≤ 57343))) = true := by simp; omega
      rw [hr, if_pos rfl]
      by_cases he : Lib.encodeRune n = [239, 191, 189]
      · rcases enc_bad h0 he with e | e
        · rw [he]; subst e; rfl
        · exact absurd hv e
      · rw [if_pos (by simp [h32]; exact he)]
    · have hr : (decide (32 ≤ n) && decide (n ≤ 1114111) && !(decide (55296 ≤ n) && decide (n ≤ 57343))) = false := by
        rw [Bool.eq_false_iff]; simp; omega
      rw [hr, enc_good h0 hv]
      simp
  · simp [h32]

/-- what is handed back of a sign -/
def signV (r : Option Int) : Value := match r with
  | some c => .tuple #[.int .i32 c, .bool true]
  | none => .tuple #[.int .i32 0, .bool false]
theorem signL_other {l : List UInt8} (h1 : (l == [97, 109, 112]) = false) (h2 : (l == [108, 116]) = false) (h3 : (l == [103, 116]) = false) (h4 : (l == [113, 117, 111, 116]) = false) (h5 : (l == [97, 112, 111, 115]) = false) : signL l = signNum (signN l) := by
  unfold signL
  rw [if_neg (by simpa using h1), if_neg (by simpa using h2), if_neg (by simpa using h3), if_neg (by simpa using h4), if_neg (by simpa using h5)]
theorem hp_ne {l p : List UInt8} (h : Lib.hasPrefix l p = true) : ∃ t, l = p ++ t := by
  simp only [Lib.hasPrefix, List.isPrefixOf_iff_prefix] at h
  obtain ⟨t, rfl⟩ := h
  exact ⟨t, rfl⟩

theorem signNum_rgt {n : Int} (h : ¬ n < 0) : signNum n = some (if rgtB n then n else 65533) := by
  rw [rgt_ok (by omega)]
  unfold signNum
  rw [if_neg h]
  split <;> simp_all
theorem signNum_bad {n : Int} (h : ¬ n < 0) (hb : (n < 32 ∧ n ≠ 9 ∧ n ≠ 10 ∧ n ≠ 13) ∨ 1114111 < n ∨ (55296 ≤ n ∧ n ≤ 57343)) : signNum n = some 65533 := by
  unfold signNum
  rw [if_neg h, if_neg]
  simp [okSign]
  omega
theorem signNum_good {n : Int} (h : ¬ n < 0) (hb : 32 ≤ n ∧ n ≤ 1114111 ∧ ¬ (55296 ≤ n ∧ n ≤ 57343)) : signNum n = some n := by
  unfold signNum
  rw [if_neg h, if_pos]
  simp [okSign]
  omega
theorem hp_one {l : List UInt8} {u : UInt8} (h : l[0]? = some u) (hu : u.toNat = 35) : Lib.hasPrefix l [35] = true := by
  cases l with
  | nil => simp at h
  | cons c t =>
    simp at h
    subst h
    have : c = 35 := UInt8.toNat_inj.1 hu
    subst this
    simp [Lib.hasPrefix, List.isPrefixOf]
theorem hp_one' {l : List UInt8} {u : UInt8} (h : l[0]? = some u) (hp : Lib.hasPrefix l [35] = true) : u.toNat = 35 := by
  obtain ⟨t, rfl⟩ := hp_ne hp
  simp at h
  rw [← h]
  rfl
theorem hp_two {l : List UInt8} (h : Lib.hasPrefix l [35, 120] = true) (hl : ¬ 2 < l.length) : l = [35, 120] := by
  obtain ⟨t, rfl⟩ := hp_ne h
  have : t = [] := by simpa using hl
  rw [this]
  rfl
theorem sn_dec {l : List UInt8} (h : ¬ (2 < l.length ∧ Lib.hasPrefix l [35, 120] = true)) (h1 : 1 < l.length) (hp : Lib.hasPrefix l [35] = true) : signN l = numberL (l.drop 1) 10 7 := by
  by_cases q : Lib.hasPrefix l [35, 120] = true
  · rw [hp_two q (fun x => h ⟨x, q⟩)]
    decide
  · unfold signN
    rw [if_neg q, if_pos hp]
theorem sn_none {l : List UInt8} (h : ¬ (2 < l.length ∧ Lib.hasPrefix l [35, 120] = true)) (h1 : ¬ (1 < l.length ∧ Lib.hasPrefix l [35] = true)) : signN l = -1 := by
  by_cases q : Lib.hasPrefix l [35, 120] = true
  · rw [hp_two q (fun x => h ⟨x, q⟩)]
    decide
  · unfold signN
    rw [if_neg q]
    by_cases q1 : Lib.hasPrefix l [35] = true
    · rw [if_pos q1]
      obtain ⟨t, rfl⟩ := hp_ne q1
      have ht : t = [] := by
        rcases t with _ | ⟨c, t⟩
        · rfl
        · exact absurd ⟨by simp, q1⟩ h1
      subst ht
      decide
    · rw [if_neg q1]
set_option maxHeartbeats 4000000 in
theorem refSign_any (s : ByteArray) (w : World) (hS : s.size ≤ 1000000) : Calls Try.prog 54 #[.string s] w fun e w' => e = .returned (signV (signL (bl s))) ∧ w = w' := by
  have hbl := bl_len s
  have htl : s.toList = bl s := ByteArray.toList_eq s
  by_cases c1 : bl s = [97, 109, 112]
  · obtain rfl : s = ⟨#[97, 109, 112]⟩ := by rw [← bl_mk s, c1]
    clear c1
    go_enter Try.func54, Try.ntmps54
    go_wp2_with fail
    go_ret2
    exact ⟨rfl, rfl⟩
  by_cases c2 : bl s = [108, 116]
  · obtain rfl : s = ⟨#[108, 116]⟩ := by rw [← bl_mk s, c2]
    clear c2
    go_enter Try.func54, Try.ntmps54
    go_wp2_with fail
    go_ret2
    exact ⟨rfl, rfl⟩
  by_cases c3 : bl s = [103, 116]
  · obtain rfl : s = ⟨#[103, 116]⟩ := by rw [← bl_mk s, c3]
    clear c3
    go_enter Try.func54, Try.ntmps54
    go_wp2_with fail
    go_ret2
    exact ⟨rfl, rfl⟩
  by_cases c4 : bl s = [113, 117, 111, 116]
  · obtain rfl : s = ⟨#[113, 117, 111, 116]⟩ := by rw [← bl_mk s, c4]
    clear c4
    go_enter Try.func54, Try.ntmps54
    go_wp2_with fail
    go_ret2
    exact ⟨rfl, rfl⟩
  by_cases c5 : bl s = [97, 112, 111, 115]
  · obtain rfl : s = ⟨#[97, 112, 111, 115]⟩ := by rw [← bl_mk s, c5]
    clear c5
    go_enter Try.func54, Try.ntmps54
    go_wp2_with fail
    go_ret2
    exact ⟨rfl, rfl⟩
  have d1 : (s.toList == [97, 109, 112]) = false := by rw [htl]; simpa using c1
  have d2 : (s.toList == [108, 116]) = false := by rw [htl]; simpa using c2
  have d3 : (s.toList == [103, 116]) = false := by rw [htl]; simpa using c3
  have d4 : (s.toList == [113, 117, 111, 116]) = false := by rw [htl]; simpa using c4
  have d5 : (s.toList == [97, 112, 111, 115]) = false := by rw [htl]; simpa using c5
  have HE : Hid (signL (bl s) = signNum (signN (bl s))) := Lib.hid (signL_other (by simpa using c1) (by simpa using c2) (by simpa using c3) (by simpa using c4) (by simpa using c5))
  clear c1 c2 c3 c4 c5 htl
  have hsb := signN_bd (bl s)
  by_cases p1 : 2 < s.size ∧ Lib.hasPrefix (bl s) [35, 120] = true
  · obtain ⟨p1, p2⟩ := p1
    have hsn : signN (bl s) = numberL ((bl s).drop 2) 16 6 := by unfold signN; rw [if_pos p2]
    have hx : ((s.extract 0 2).toList == [35, 120]) = true := by
      rw [show (s.extract 0 2).toList = bl (s.extract 0 2) from ByteArray.toList_eq _, bl_upto]
      obtain ⟨t, ht⟩ := hp_ne p2
      rw [ht]
      rfl
    have HN := Lib.hid (fun W => refNumber_any7 (s.extract 2 s.size) 16 6 W (by omega) (by omega) (by rw [size_from]; omega))
    rw [bl_from, ← hsn] at HN
    have e1 : decide (2 < s.size) = true := by simp; omega
    clear p2 hsn
    generalize signN (bl s) = n at *
    by_cases hn : n < 0
    · have HV : Hid (signL (bl s) = none) := Lib.hid (by rw [HE.out]; unfold signNum; rw [if_pos hn])
      have dn : decide (n < 0) = true := by simp; omega
      clear HE
      go_enter Try.func54, Try.ntmps54
      go_wp2_with fail
      (with_reducible refine (HN.out _).mono ?_)
      rintro e w1 ⟨rfl, rfl⟩
      go_wp2_with fail
      go_ret2
      rw [HV.out]
      exact ⟨rfl, rfl⟩
    have dn : decide (n < 0) = false := by simp; omega
    have hn32 : IntKind.i32.wrap n = n := IntWalk.i32_in _ (by omega)
    by_cases q32 : n < 32
    · have d32 : decide (n < 32) = true := by simp; omega
      have dbig : decide (1114111 < n) = false := by simp; omega
      have dsu : decide (55296 ≤ n) = false := by simp; omega
      by_cases q9 : n = 9
      · subst q9
        have HV : Hid (signL (bl s) = some 9) := Lib.hid (by rw [HE.out]; rfl)
        clear HE
        go_enter Try.func54, Try.ntmps54
        go_wp2_with fail
        (with_reducible refine (HN.out _).mono ?_)
        rintro e w1 ⟨rfl, rfl⟩
        go_wp2_with fail
        go_ret2
        rw [HV.out]
        exact ⟨rfl, rfl⟩
      by_cases q10 : n = 10
      · subst q10
        have HV : Hid (signL (bl s) = some 10) := Lib.hid (by rw [HE.out]; rfl)
        clear HE
        go_enter Try.func54, Try.ntmps54
        go_wp2_with fail
        (with_reducible refine (HN.out _).mono ?_)
        rintro e w1 ⟨rfl, rfl⟩
        go_wp2_with fail
        go_ret2
        rw [HV.out]
        exact ⟨rfl, rfl⟩
      by_cases q13 : n = 13
      · subst q13
        have HV : Hid (signL (bl s) = some 13) := Lib.hid (by rw [HE.out]; rfl)
        clear HE
        go_enter Try.func54, Try.ntmps54
        go_wp2_with fail
        (with_reducible refine (HN.out _).mono ?_)
        rintro e w1 ⟨rfl, rfl⟩
        go_wp2_with fail
        go_ret2
        rw [HV.out]
        exact ⟨rfl, rfl⟩
      have d9 : (n != 9) = true := by simp; omega
      have d10 : (n != 10) = true := by simp; omega
      have d13 : (n != 13) = true := by simp; omega
      have HV : Hid (signL (bl s) = some 65533) := Lib.hid (by rw [HE.out]; exact signNum_bad hn (by omega))
      clear HE q9 q10 q13
      go_enter Try.func54, Try.ntmps54
      go_wp2_with fail
      (with_reducible refine (HN.out _).mono ?_)
      rintro e w1 ⟨rfl, rfl⟩
      go_wp2_with fail
      go_ret2
      rw [HV.out]
      exact ⟨rfl, rfl⟩
    have d32 : decide (n < 32) = false := by simp; omega
    by_cases qbig : 1114111 < n
    · have dbig : decide (1114111 < n) = true := by simp; omega
      have HV : Hid (signL (bl s) = some 65533) := Lib.hid (by rw [HE.out]; exact signNum_bad hn (by omega))
      clear HE
      go_enter Try.func54, Try.ntmps54
      go_wp2_with fail
      (with_reducible refine (HN.out _).mono ?_)
      rintro e w1 ⟨rfl, rfl⟩
      go_wp2_with fail
      go_ret2
      rw [HV.out]
      exact ⟨rfl, rfl⟩
    have dbig : decide (1114111 < n) = false := by simp; omega
    by_cases qs1 : 55296 ≤ n
    · have ds1 : decide (55296 ≤ n) = true := by simp; omega
      by_cases qs2 : n ≤ 57343
      · have ds2 : decide (n ≤ 57343) = true := by simp; omega
        have HV : Hid (signL (bl s) = some 65533) := Lib.hid (by rw [HE.out]; exact signNum_bad hn (by omega))
        clear HE
        go_enter Try.func54, Try.ntmps54
        go_wp2_with fail
        (with_reducible refine (HN.out _).mono ?_)
        rintro e w1 ⟨rfl, rfl⟩
        go_wp2_with fail
        go_ret2
        rw [HV.out]
        exact ⟨rfl, rfl⟩
      · have ds2 : decide (n ≤ 57343) = false := by simp; omega
        have HV : Hid (signL (bl s) = some n) := Lib.hid (by rw [HE.out]; exact signNum_good hn (by omega))
        clear HE
        go_enter Try.func54, Try.ntmps54
        go_wp2_with fail
        (with_reducible refine (HN.out _).mono ?_)
        rintro e w1 ⟨rfl, rfl⟩
        go_wp2_with fail
        go_ret2
        rw [HV.out]
        exact ⟨rfl, rfl⟩
    · have ds1 : decide (55296 ≤ n) = false := by simp; omega
      have HV : Hid (signL (bl s) = some n) := Lib.hid (by rw [HE.out]; exact signNum_good hn (by omega))
      clear HE
      go_enter Try.func54, Try.ntmps54
      go_wp2_with fail
      (with_reducible refine (HN.out _).mono ?_)
      rintro e w1 ⟨rfl, rfl⟩
      go_wp2_with fail
      go_ret2
      rw [HV.out]
      exact ⟨rfl, rfl⟩
  rw [← hbl] at p1
  by_cases q2 : 2 < s.size
  · have e1 : decide (2 < s.size) = true := by simp; omega
    have hx : ((s.extract 0 2).toList == [35, 120]) = false := by
      rw [show (s.extract 0 2).toList = bl (s.extract 0 2) from ByteArray.toList_eq _, bl_upto]
      rw [beq_eq_false_iff_ne]
      intro e
      refine p1 ⟨by omega, ?_⟩
      simp only [Lib.hasPrefix, List.isPrefixOf_iff_prefix]
      exact ⟨(bl s).drop 2, by rw [← e, List.take_append_drop]⟩
    by_cases q1 : 1 < s.size
    · have e2 : decide (1 < s.size) = true := by simp; omega
      have hu := bl_get s 0 (by omega)
      obtain ⟨u, hu0⟩ : ∃ u, s[0]'(by omega) = u := ⟨_, rfl⟩
      rw [hu0] at hu
      by_cases q35 : u.toNat = 35
      · have e3 : ((u.toNat : Int) == 35) = true := by simp; omega
        have hsn := sn_dec p1 (by omega) (hp_one hu q35)
        have HN := Lib.hid (fun W => refNumber_any7 (s.extract 1 s.size) 10 7 W (by omega) (by omega) (by rw [size_from]; omega))
        rw [bl_from, ← hsn] at HN
        clear p1 hsn q35 hu
        generalize signN (bl s) = n at *
        by_cases hn : n < 0
        · have HV : Hid (signL (bl s) = none) := Lib.hid (by rw [HE.out]; unfold signNum; rw [if_pos hn])
          have dn : decide (n < 0) = true := by simp; omega
          clear HE
          go_enter Try.func54, Try.ntmps54
          go_wp2_with fail
          (with_reducible refine (HN.out _).mono ?_)
          rintro e w1 ⟨rfl, rfl⟩
          go_wp2_with fail
          go_ret2
          rw [HV.out]
          exact ⟨rfl, rfl⟩
        have dn : decide (n < 0) = false := by simp; omega
        have hn32 : IntKind.i32.wrap n = n := IntWalk.i32_in _ (by omega)
        by_cases q32 : n < 32
        · have d32 : decide (n < 32) = true := by simp; omega
          have dbig : decide (1114111 < n) = false := by simp; omega
          have dsu : decide (55296 ≤ n) = false := by simp; omega
          by_cases q9 : n = 9
          · subst q9
            have HV : Hid (signL (bl s) = some 9) := Lib.hid (by rw [HE.out]; rfl)
            clear HE
            go_enter Try.func54, Try.ntmps54
            go_wp2_with fail
            (with_reducible refine (HN.out _).mono ?_)
            rintro e w1 ⟨rfl, rfl⟩
            go_wp2_with fail
            go_ret2
            rw [HV.out]
            exact ⟨rfl, rfl⟩
          by_cases q10 : n = 10
          · subst q10
            have HV : Hid (signL (bl s) = some 10) := Lib.hid (by rw [HE.out]; rfl)
            clear HE
            go_enter Try.func54, Try.ntmps54
            go_wp2_with fail
            (with_reducible refine (HN.out _).mono ?_)
            rintro e w1 ⟨rfl, rfl⟩
            go_wp2_with fail
            go_ret2
            rw [HV.out]
            exact ⟨rfl, rfl⟩
          by_cases q13 : n = 13
          · subst q13
            have HV : Hid (signL (bl s) = some 13) := Lib.hid (by rw [HE.out]; rfl)
            clear HE
            go_enter Try.func54, Try.ntmps54
            go_wp2_with fail
            (with_reducible refine (HN.out _).mono ?_)
            rintro e w1 ⟨rfl, rfl⟩
            go_wp2_with fail
            go_ret2
            rw [HV.out]
            exact ⟨rfl, rfl⟩
          have d9 : (n != 9) = true := by simp; omega
          have d10 : (n != 10) = true := by simp; omega
          have d13 : (n != 13) = true := by simp; omega
          have HV : Hid (signL (bl s) = some 65533) := Lib.hid (by rw [HE.out]; exact signNum_bad hn (by omega))
          clear HE q9 q10 q13
          go_enter Try.func54, Try.ntmps54
          go_wp2_with fail
          (with_reducible refine (HN.out _).mono ?_)
          rintro e w1 ⟨rfl, rfl⟩
          go_wp2_with fail
          go_ret2
          rw [HV.out]
          exact ⟨rfl, rfl⟩
        have d32 : decide (n < 32) = false := by simp; omega
        by_cases qbig : 1114111 < n
        · have dbig : decide (1114111 < n) = true := by simp; omega
          have HV : Hid (signL (bl s) = some 65533) := Lib.hid (by rw [HE.out]; exact signNum_bad hn (by omega))
          clear HE
          go_enter Try.func54, Try.ntmps54
          go_wp2_with fail
          (with_reducible refine (HN.out _).mono ?_)
          rintro e w1 ⟨rfl, rfl⟩
          go_wp2_with fail
          go_ret2
          rw [HV.out]
          exact ⟨rfl, rfl⟩
        have dbig : decide (1114111 < n) = false := by simp; omega
        by_cases qs1 : 55296 ≤ n
        · have ds1 : decide (55296 ≤ n) = true := by simp; omega
          by_cases qs2 : n ≤ 57343
          · have ds2 : decide (n ≤ 57343) = true := by simp; omega
            have HV : Hid (signL (bl s) = some 65533) := Lib.hid (by rw [HE.out]; exact signNum_bad hn (by omega))
            clear HE
            go_enter Try.func54, Try.ntmps54
            go_wp2_with fail
            (with_reducible refine (HN.out _).mono ?_)
            rintro e w1 ⟨rfl, rfl⟩
            go_wp2_with fail
            go_ret2
            rw [HV.out]
            exact ⟨rfl, rfl⟩
          · have ds2 : decide (n ≤ 57343) = false := by simp; omega
            have HV : Hid (signL (bl s) = some n) := Lib.hid (by rw [HE.out]; exact signNum_good hn (by omega))
            clear HE
            go_enter Try.func54, Try.ntmps54
            go_wp2_with fail
            (with_reducible refine (HN.out _).mono ?_)
            rintro e w1 ⟨rfl, rfl⟩
            go_wp2_with fail
            go_ret2
            rw [HV.out]
            exact ⟨rfl, rfl⟩
        · have ds1 : decide (55296 ≤ n) = false := by simp; omega
          have HV : Hid (signL (bl s) = some n) := Lib.hid (by rw [HE.out]; exact signNum_good hn (by omega))
          clear HE
          go_enter Try.func54, Try.ntmps54
          go_wp2_with fail
          (with_reducible refine (HN.out _).mono ?_)
          rintro e w1 ⟨rfl, rfl⟩
          go_wp2_with fail
          go_ret2
          rw [HV.out]
          exact ⟨rfl, rfl⟩
      · have e3 : ((u.toNat : Int) == 35) = false := by simp; omega
        have HV : Hid (signL (bl s) = none) := Lib.hid (by rw [HE.out, sn_none p1 (fun h => q35 (hp_one' hu h.2))]; rfl)
        clear p1 q35 hu HE
        clear hsb
        go_enter Try.func54, Try.ntmps54
        go_wp2_with fail
        go_ret2
        rw [HV.out]
        exact ⟨rfl, rfl⟩
    · omega
  · have e1 : decide (2 < s.size) = false := by simp; omega
    by_cases q1 : 1 < s.size
    · have e2 : decide (1 < s.size) = true := by simp; omega
      have hu := bl_get s 0 (by omega)
      obtain ⟨u, hu0⟩ : ∃ u, s[0]'(by omega) = u := ⟨_, rfl⟩
      rw [hu0] at hu
      by_cases q35 : u.toNat = 35
      · have e3 : ((u.toNat : Int) == 35) = true := by simp; omega
        have hsn := sn_dec p1 (by omega) (hp_one hu q35)
        have HN := Lib.hid (fun W => refNumber_any7 (s.extract 1 s.size) 10 7 W (by omega) (by omega) (by rw [size_from]; omega))
        rw [bl_from, ← hsn] at HN
        clear p1 hsn q35 hu
        generalize signN (bl s) = n at *
        by_cases hn : n < 0
        · have HV : Hid (signL (bl s) = none) := Lib.hid (by rw [HE.out]; unfold signNum; rw [if_pos hn])
          have dn : decide (n < 0) = true := by simp; omega
          clear HE
          go_enter Try.func54, Try.ntmps54
          go_wp2_with fail
          (with_reducible refine (HN.out _).mono ?_)
          rintro e w1 ⟨rfl, rfl⟩
          go_wp2_with fail
          go_ret2
          rw [HV.out]
          exact ⟨rfl, rfl⟩
        have dn : decide (n < 0) = false := by simp; omega
        have hn32 : IntKind.i32.wrap n = n := IntWalk.i32_in _ (by omega)
        by_cases q32 : n < 32
        · have d32 : decide (n < 32) = true := by simp; omega
          have dbig : decide (1114111 < n) = false := by simp; omega
          have dsu : decide (55296 ≤ n) = false := by simp; omega
          by_cases q9 : n = 9
          · subst q9
            have HV : Hid (signL (bl s) = some 9) := Lib.hid (by rw [HE.out]; rfl)
            clear HE
            go_enter Try.func54, Try.ntmps54
            go_wp2_with fail
            (with_reducible refine (HN.out _).mono ?_)
            rintro e w1 ⟨rfl, rfl⟩
            go_wp2_with fail
            go_ret2
            rw [HV.out]
            exact ⟨rfl, rfl⟩
          by_cases q10 : n = 10
          · subst q10
            have HV : Hid (signL (bl s) = some 10) := Lib.hid (by rw [HE.out]; rfl)
            clear HE
            go_enter Try.func54, Try.ntmps54
            go_wp2_with fail
            (with_reducible refine (HN.out _).mono ?_)
            rintro e w1 ⟨rfl, rfl⟩
            go_wp2_with fail
            go_ret2
            rw [HV.out]
            exact ⟨rfl, rfl⟩
          by_cases q13 : n = 13
          · subst q13
            have HV : Hid (signL (bl s) = some 13) := Lib.hid (by rw [HE.out]; rfl)
            clear HE
            go_enter Try.func54, Try.ntmps54
            go_wp2_with fail
            (with_reducible refine (HN.out _).mono ?_)
            rintro e w1 ⟨rfl, rfl⟩
            go_wp2_with fail
            go_ret2
            rw [HV.out]
            exact ⟨rfl, rfl⟩
          have d9 : (n != 9) = true := by simp; omega
          have d10 : (n != 10) = true := by simp; omega
          have d13 : (n != 13) = true := by simp; omega
          have HV : Hid (signL (bl s) = some 65533) := Lib.hid (by rw [HE.out]; exact signNum_bad hn (by omega))
          clear HE q9 q10 q13
          go_enter Try.func54, Try.ntmps54
          go_wp2_with fail
          (with_reducible refine (HN.out _).mono ?_)
          rintro e w1 ⟨rfl, rfl⟩
          go_wp2_with fail
          go_ret2
          rw [HV.out]
          exact ⟨rfl, rfl⟩
        have d32 : decide (n < 32) = false := by simp; omega
        by_cases qbig : 1114111 < n
        · have dbig : decide (1114111 < n) = true := by simp; omega
          have HV : Hid (signL (bl s) = some 65533) := Lib.hid (by rw [HE.out]; exact signNum_bad hn (by omega))
          clear HE
          go_enter Try.func54, Try.ntmps54
          go_wp2_with fail
          (with_reducible refine (HN.out _).mono ?_)
          rintro e w1 ⟨rfl, rfl⟩
          go_wp2_with fail
          go_ret2
          rw [HV.out]
          exact ⟨rfl, rfl⟩
        have dbig : decide (1114111 < n) = false := by simp; omega
        by_cases qs1 : 55296 ≤ n
        · have ds1 : decide (55296 ≤ n) = true := by simp; omega
          by_cases qs2 : n ≤ 57343
          · have ds2 : decide (n ≤ 57343) = true := by simp; omega
            have HV : Hid (signL (bl s) = some 65533) := Lib.hid (by rw [HE.out]; exact signNum_bad hn (by omega))
            clear HE
            go_enter Try.func54, Try.ntmps54
            go_wp2_with fail
            (with_reducible refine (HN.out _).mono ?_)
            rintro e w1 ⟨rfl, rfl⟩
            go_wp2_with fail
            go_ret2
            rw [HV.out]
            exact ⟨rfl, rfl⟩
          · have ds2 : decide (n ≤ 57343) = false := by simp; omega
            have HV : Hid (signL (bl s) = some n) := Lib.hid (by rw [HE.out]; exact signNum_good hn (by omega))
            clear HE
            go_enter Try.func54, Try.ntmps54
            go_wp2_with fail
            (with_reducible refine (HN.out _).mono ?_)
            rintro e w1 ⟨rfl, rfl⟩
            go_wp2_with fail
            go_ret2
            rw [HV.out]
            exact ⟨rfl, rfl⟩
        · have ds1 : decide (55296 ≤ n) = false := by simp; omega
          have HV : Hid (signL (bl s) = some n) := Lib.hid (by rw [HE.out]; exact signNum_good hn (by omega))
          clear HE
          go_enter Try.func54, Try.ntmps54
          go_wp2_with fail
          (with_reducible refine (HN.out _).mono ?_)
          rintro e w1 ⟨rfl, rfl⟩
          go_wp2_with fail
          go_ret2
          rw [HV.out]
          exact ⟨rfl, rfl⟩
      · have e3 : ((u.toNat : Int) == 35) = false := by simp; omega
        have HV : Hid (signL (bl s) = none) := Lib.hid (by rw [HE.out, sn_none p1 (fun h => q35 (hp_one' hu h.2))]; rfl)
        clear p1 q35 hu HE
        clear hsb
        go_enter Try.func54, Try.ntmps54
        go_wp2_with fail
        go_ret2
        rw [HV.out]
        exact ⟨rfl, rfl⟩
    · have e2 : decide (1 < s.size) = false := by simp; omega
      have HV : Hid (signL (bl s) = none) := Lib.hid (by rw [HE.out, sn_none p1 (fun h => q1 (by rw [← hbl]; exact h.1))]; rfl)
      clear p1 HE
      clear hsb
      go_enter Try.func54, Try.ntmps54
      go_wp2_with fail
      go_ret2
      rw [HV.out]
      exact ⟨rfl, rfl⟩
end Go.Proofs.Ytjmmgekildlckaa
end
section
namespace Go.Proofs.Ytjmmgekildlckaa
open Go.RowKit Go.Nst
set_option maxRecDepth 100000
set_option linter.unusedVariables false
set_option linter.unusedSimpArgs false

theorem write_round {l : List UInt8} {k : Nat} {u : UInt8} (hu : l[k]? = some u) : writeL (l.take (k + 1)) = writeL (l.take k) ++ escC u := by
  rw [List.take_add_one, hu]
  simp [writeL]
theorem esc_at {u : UInt8} {n : Nat} (h : u.toNat = n) : u = UInt8.ofNat n := by
  rw [← h]
  simp
theorem esc_not {u : UInt8} (h1 : ¬ u.toNat = 38) (h2 : ¬ u.toNat = 60) (h3 : ¬ u.toNat = 62) (h4 : ¬ u.toNat = 34) (h5 : ¬ u.toNat = 39) : escC u = [u] := by
  refine escC_plain u ?_
  simp only [specC, Bool.or_eq_false_iff, beq_eq_false_iff_ne]
  refine ⟨⟨⟨⟨?_, ?_⟩, ?_⟩, ?_⟩, ?_⟩ <;> (intro e; subst e; first | exact h1 rfl | exact h2 rfl | exact h3 rfl | exact h4 rfl | exact h5 rfl)

end Go.Proofs.Ytjmmgekildlckaa
end
section
namespace Go.Proofs.Ytjmmgekildlckaa
open Go.RowKit Go.Nst
set_option maxRecDepth 100000
set_option linter.unusedVariables false
set_option linter.unusedSimpArgs false

/-- the library's variable MaxLen holds some int -/
def ML (w : World) : Prop := ∃ m, w.cell? ⟨0, 0, none⟩ = some (.int .i64 m)
theorem ML.below {w w' : World} (h : ML w) (hb : Below w.heap.size w w') : ML w' := by
  obtain ⟨m, hm⟩ := h
  have := World.block_lt_of_cell? w _ hm
  exact ⟨m, (hb.cell (p := ⟨0, 0, none⟩) this).trans hm⟩
theorem Bd.drewN {w : World} {B b : Nat} {l : List UInt8} (h : Bd w B b l) (n : Nat) : Bd (w.drewN n) B b l := h

theorem bd_below {w w' : World} {B b : Nat} {l : List UInt8} (h : Bd w B b l) (hb : Below w.heap.size w w') : Bd w' B b l := by
  have key : ∀ {p : Value} {bs : List Value}, Lib.BuilderAtF 79 5 B b p bs w → Lib.BuilderAtF 79 5 B b p bs w' := by
    intro p bs h
    obtain ⟨hB, v, hbk, hown, hne⟩ := h
    refine ⟨hB, v, (hb.block b (Array.getElem?_eq_some_iff.1 hbk).1).trans hbk, ⟨hown.1, ?_⟩, hne⟩
    rcases hown.2 with h2 | ⟨g, cap, cur, fz, hv, hg, hh, r⟩
    · exact .inl h2
    · exact .inr ⟨g, cap, cur, fz, hv, hg, (hb.block g (Array.getElem?_eq_some_iff.1 hh).1).trans hh, r⟩
  exact h.elim (fun x => .inl (key x)) (fun x => .inr (key x))
theorem strLen_of (l : List UInt8) : strLen (.string ⟨l.toArray⟩) = l.length := size_of l

end Go.Proofs.Ytjmmgekildlckaa
end
section
namespace Go.Proofs.Ytjmmgekildlckaa
open Go.RowKit Go.Nst
set_option maxRecDepth 100000
set_option linter.unusedVariables false
set_option linter.unusedSimpArgs false

theorem drop_at {l : List UInt8} {k : Nat} {u : UInt8} (h : l[k]? = some u) : l.drop k = u :: l.drop (k + 1) := by
  rw [List.drop_eq_getElem_cons (List.getElem?_eq_some_iff.1 h).1, (List.getElem?_eq_some_iff.1 h).2]
theorem semi_cut {l : List UInt8} {k j : Nat} (hj : l[j]? = some 59) (hall : ∀ i, k + 1 ≤ i → i < j → l[i]? ≠ some 59) (hkj : k + 1 ≤ j) : Lib.cut (l.drop (k + 1)) [59] = ((l.drop (k + 1)).take (j - (k + 1)), l.drop (j + 1), true) := by
  have e : l.drop (k + 1) = (l.drop (k + 1)).take (j - (k + 1)) ++ 59 :: l.drop (j + 1) := by
    rw [← drop_at hj]
    conv => lhs; rw [← List.take_append_drop (j - (k + 1)) (l.drop (k + 1))]
    rw [List.drop_drop, show k + 1 + (j - (k + 1)) = j by omega]
  have hn : 59 ∉ (l.drop (k + 1)).take (j - (k + 1)) := by
    intro h
    obtain ⟨i, hi⟩ := List.getElem?_of_mem h
    rw [List.getElem?_take] at hi
    split at hi
    · rw [List.getElem?_drop] at hi
      exact hall (k + 1 + i) (by omega) (by omega) hi
    · cases hi
  conv => lhs; rw [e]
  exact cut_yes _ _ 59 hn
theorem far_end {l : List UInt8} {k j : Nat} (hall : ∀ i, k + 1 ≤ i → i < j → l[i]? ≠ some 59) (h : l.length ≤ j ∨ k + 12 ≤ j) : signAt (l.drop (k + 1)) = none := by
  refine signAt_far fun i hi => ?_
  rw [List.getElem?_drop]
  by_cases q : k + 1 + i < j
  · exact hall _ (by omega) q
  · rcases h with h | h
    · rw [List.getElem?_eq_none (by omega)]
      simp
    · omega
theorem put_one (r : Int) : putR [r] = Lib.encodeRune r := by simp [putR]

set_option maxHeartbeats 4000000 in
theorem refRead7_any (s : ByteArray) (w : World) (hS : s.size ≤ 100000) : Calls Try.prog 41 #[.string s] w (RetS w (readL (bl s))) := by
  have hbl := bl_len s
  obtain ⟨tot, htot⟩ : ∃ tot, readL (bl s) = tot := ⟨_, rfl⟩
  have HT : Hid (tot = [] ++ readL ((bl s).drop 0)) := Lib.hid (by rw [← htot]; rfl)
  rw [htot]
  clear htot
  go_enter Try.func41, Try.ntmps41
  go_wp2_with fail
  go_loopw [3, 4] (fun v i wr => ∃ (k m : Nat) (A2 : Option Addr) (c2 : Nat) (acc : List UInt8), v = .slice A2 m c2 ∧ i = .int .i64 (k : Int) ∧ k ≤ s.size ∧ m ≤ 4 * k ∧ Ow wr w.heap.size A2 m c2 acc ∧ Below w.heap.size w wr ∧ Hid (tot = acc ++ readL ((bl s).drop k))) (fun _ i _ => s.size - (intOf i).toNat)
  case atStart => exact ⟨0, 0, none, 0, [], rfl, rfl, by omega, by omega, Ow.nil, Below.refl _ _, HT⟩
  case round =>
    obtain ⟨k, m, A2, c2, acc, rfl, rfl, hk, hm, hO, hbw, HR⟩ := hrel
    have hbs := hbw.size
    by_cases hp : k < s.size
    · have hu := bl_get s k hp
      obtain ⟨u, hu0⟩ : ∃ u, s[k] = u := ⟨_, rfl⟩
      rw [hu0] at hu
      rw [drop_at hu] at HR
      by_cases q38 : u.toNat = 38
      · have d38 : ((u.toNat : Int) == 38) = true := by simp; omega
        have hu38 : u = 38 := esc_at q38
        rw [hu38] at HR
        have HU38 := Lib.hid hu38
        clear q38 hu38 hu
        go_wp2_with fail
        go_loop [5] (fun x => ∃ j : Nat, x = .int .i64 (j : Int) ∧ k + 1 ≤ j ∧ j ≤ s.size ∧ j ≤ k + 12 ∧ Hid (∀ i, k + 1 ≤ i → i < j → (bl s)[i]? ≠ some 59)) (fun x => s.size - (intOf x).toNat)
        case atStart => exact ⟨k + 1, by go_num, by omega, by omega, by omega, Lib.hid (fun i h1 h2 => by omega)⟩
        case round =>
          obtain ⟨j, rfl, hj1, hj2, hj3, HA⟩ := hrel
          by_cases hjs : j < s.size
          · have hv := bl_get s j hjs
            obtain ⟨v, hv0⟩ : ∃ v, s[j] = v := ⟨_, rfl⟩
            rw [hv0] at hv
            by_cases q59 : v.toNat = 59
            · have e59 : ((v.toNat : Int) == 59) = true := by simp; omega
              have e59' : ((v.toNat : Int) != 59) = false := by simp; omega
              have hv59 : v = 59 := esc_at q59
              rw [hv59] at hv
              have hcut := semi_cut hv HA.out hj1
              have HSG := Lib.hid (fun W => refSign_any (s.extract (k + 1) j) W (by rw [← bl_len, bl_mid, List.length_take, List.length_drop]; omega))
              rw [bl_mid] at HSG
              have hnl : (((bl s).drop (k + 1)).take (j - (k + 1))).length = j - (k + 1) := by rw [List.length_take, List.length_drop]; omega
              clear q59 hv59 hv
              cases hs : signL (((bl s).drop (k + 1)).take (j - (k + 1))) with
              | none =>
                rw [readL_amp (signAt_none (by rw [hcut]; exact hs))] at HR
                rw [hs] at HSG
                have HN : Hid (tot = (acc ++ [u]) ++ readL ((bl s).drop (k + 1))) := Lib.hid (by rw [HR.out, HU38.out]; simp)
                clear hs hcut hnl
                go_wp2_with fail
                (with_reducible refine (HSG.out _).mono ?_)
                rintro e w1 ⟨rfl, rfl⟩
                simp only [signV]
                have hO1 := hO.below (bel_alloc (Below.refl _ _) (.cells #[.int .u8 (u.toNat : Int)] 5))
                have qq := Bs.const wr [u] #[.int .u8 (u.toNat : Int)] 5 (0, 0) 1 rfl rfl
                go_wp2_with (at_builtin; refine wpList_appBg _ iBytesU rfl rfl rfl hO1 rfl qq (m + 1) (acc ++ [u]) rfl rfl (by omega) (by simp; omega) ?_; intro A' c' w' ho hb _ _)
                go_roundw
                case rel => exact ⟨k + 1, m + 1, A', c', acc ++ [u], rfl, by go_num, by omega, by omega, ho, (hbw.alloc hbs _).trans hb, HN⟩
                case measure => simp [intOf]; omega
              | some c =>
                have hcb := signL_bd _ _ hs
                have hel := enc_len c
                have hrd := readL_sign (signAt_some (t := (bl s).drop (k + 1)) (by rw [hcut]) (by rw [hcut]; exact hs))
                rw [hcut] at hrd
                simp only at hrd
                rw [hnl, List.drop_drop, show k + 1 + (j - (k + 1) + 1) = j + 1 by omega] at hrd
                rw [hrd] at HR
                rw [hs] at HSG
                have HN : Hid (tot = (acc ++ Lib.encodeRune c) ++ readL ((bl s).drop (j + 1))) := Lib.hid (by rw [HR.out]; simp)
                have HPT := Lib.hid (fun W (h : Rn W (some ⟨wr.heap.size, 0, none⟩) 1 [c]) => refPut5_any (some ⟨wr.heap.size, 0, none⟩) 1 1 [c] W h (by intro z hz; simp at hz; omega) (by omega))
                rw [put_one] at HPT
                clear hs hcut hnl hrd HR
                generalize Lib.encodeRune c = ec at *
                have hrn := Rn.const wr [c] #[.int .i32 c] 21 (0, 0) 1 rfl rfl
                go_wp2_with fail
                (with_reducible refine (HSG.out _).mono ?_)
                rintro e w1 ⟨rfl, rfl⟩
                simp only [signV]
                go_wp2_with fail
                (with_reducible refine (HPT.out _ hrn).mono ?_)
                rintro e w1 ⟨rfl, hb1⟩
                have hb1' := bel_step (bel_alloc (Below.refl wr.heap.size wr) _) hb1
                have B1 := bel_step hbw hb1'
                have hO1 := hO.below hb1'
                have hs1 := B1.size
                clear hb1 hb1' hrn
                go_wp2_with (at_builtin; refine wpList_appS _ iBytesU Try.underlying9 rfl rfl rfl hO1 rfl (m + ec.length) (acc ++ ec) rfl rfl (by omega) hs1 ?_; intro A' c' w' ho hb _)
                go_roundw
                case rel => exact ⟨j + 1, m + ec.length, A', c', acc ++ ec, rfl, by go_num, by omega, by omega, ho, B1.trans hb, HN⟩
                case measure => simp [intOf]; omega
            · have e59 : ((v.toNat : Int) == 59) = false := by simp; omega
              have e59' : ((v.toNat : Int) != 59) = true := by simp; omega
              have hv59 : (bl s)[j]? ≠ some 59 := by
                rw [hv]
                intro e
                injection e with e
                exact q59 (by rw [e]; rfl)
              have HNX : Hid (∀ i, k + 1 ≤ i → i < j + 1 → (bl s)[i]? ≠ some 59) := Lib.hid (fun i h1 h2 => by
                by_cases e : i = j
                · subst e; exact hv59
                · exact HA.out i h1 (by omega))
              clear q59 hv hv59
              by_cases h12 : j < k + 12
              · have d12 : decide ((j : Int) - (k : Int) < 12) = true := by simp; omega
                go_wp2_with fail
                go_round
                case rel => exact ⟨j + 1, by go_num, by omega, by omega, by omega, HNX⟩
                case measure => simp [intOf]; omega
              · have d12 : decide ((j : Int) - (k : Int) < 12) = false := by simp; omega
                rw [readL_amp (far_end HA.out (.inr (by omega)))] at HR
                have HN : Hid (tot = (acc ++ [u]) ++ readL ((bl s).drop (k + 1))) := Lib.hid (by rw [HR.out, HU38.out]; simp)
                have hO1 := hO.below (bel_alloc (Below.refl _ _) (.cells #[.int .u8 (u.toNat : Int)] 5))
                have qq := Bs.const wr [u] #[.int .u8 (u.toNat : Int)] 5 (0, 0) 1 rfl rfl
                go_wp2_with (at_builtin; refine wpList_appBg _ iBytesU rfl rfl rfl hO1 rfl qq (m + 1) (acc ++ [u]) rfl rfl (by omega) (by simp; omega) ?_; intro A' c' w' ho hb _ _)
                go_roundw
                case rel => exact ⟨k + 1, m + 1, A', c', acc ++ [u], rfl, by go_num, by omega, by omega, ho, (hbw.alloc hbs _).trans hb, HN⟩
                case measure => simp [intOf]; omega
          · rw [readL_amp (far_end HA.out (.inl (by omega)))] at HR
            have HN : Hid (tot = (acc ++ [u]) ++ readL ((bl s).drop (k + 1))) := Lib.hid (by rw [HR.out, HU38.out]; simp)
            have hO1 := hO.below (bel_alloc (Below.refl _ _) (.cells #[.int .u8 (u.toNat : Int)] 5))
            have qq := Bs.const wr [u] #[.int .u8 (u.toNat : Int)] 5 (0, 0) 1 rfl rfl
            go_wp2_with (at_builtin; refine wpList_appBg _ iBytesU rfl rfl rfl hO1 rfl qq (m + 1) (acc ++ [u]) rfl rfl (by omega) (by simp; omega) ?_; intro A' c' w' ho hb _ _)
            go_roundw
            case rel => exact ⟨k + 1, m + 1, A', c', acc ++ [u], rfl, by go_num, by omega, by omega, ho, (hbw.alloc hbs _).trans hb, HN⟩
            case measure => simp [intOf]; omega
      · have d38 : ((u.toNat : Int) == 38) = false := by simp; omega
        have hu38 : u ≠ 38 := fun e => q38 (by rw [e]; rfl)
        rw [readL_plain u _ hu38] at HR
        have HN : Hid (tot = (acc ++ [u]) ++ readL ((bl s).drop (k + 1))) := Lib.hid (by rw [HR.out]; simp)
        clear q38 hu38 hu
        go_wp2_with fail
        go_loop [5] (fun x => x = .int .i64 ((k + 1 : Nat) : Int)) (fun _ => 0)
        case atStart => go_num
        case round =>
          subst hrel
          have hO1 := hO.below (bel_alloc (Below.refl _ _) (.cells #[.int .u8 (u.toNat : Int)] 5))
          have qq := Bs.const wr [u] #[.int .u8 (u.toNat : Int)] 5 (0, 0) 1 rfl rfl
          go_wp2_with (at_builtin; refine wpList_appBg _ iBytesU rfl rfl rfl hO1 rfl qq (m + 1) (acc ++ [u]) rfl rfl (by omega) (by simp; omega) ?_; intro A' c' w' ho hb _ _)
          go_roundw
          case rel => exact ⟨k + 1, m + 1, A', c', acc ++ [u], rfl, by go_num, by omega, by omega, ho, (hbw.alloc hbs _).trans hb, HN⟩
          case measure => simp [intOf]; omega
    · have HE : Hid (tot = acc) := Lib.hid (by rw [HR.out, List.drop_of_length_le (by omega), readL_nil]; simp)
      have hcv := hO.bs.str (P := Try.prog) 77 9 5 c2 Try.underlying77 Try.underlying5 Try.underlying9
      go_wp2_with fail
      go_ret
      rw [HE.out]
      exact ⟨rfl, hbw⟩
end Go.Proofs.Ytjmmgekildlckaa
end
