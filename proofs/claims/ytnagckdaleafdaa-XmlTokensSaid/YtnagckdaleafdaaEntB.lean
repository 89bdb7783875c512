/-
  entity.right, entity.Sign; the reference's Sign.
-/
import Derived.Test.YtnagckdaleafdaaEntA
namespace Go.Proofs.Ytnagckdaleafdaa
open Go.RowKit Go.Nst
set_option maxRecDepth 100000
set_option linter.unusedVariables false
set_option linter.unusedSimpArgs false

theorem encode_bytes (r : Nat) : Utf8.encode (r : Int) = ⟨(Lib.encodeRune (r : Int)).toArray⟩ := by
  unfold Lib.encodeRune
  by_cases hb : (55296 ≤ r ∧ r ≤ 57343) ∨ 1114111 < r
  · have v : Utf8.valid (r : Int) = false := by simp [Utf8.valid]; omega
    rw [Lib.encodeRuneZ_bad (by omega)]
    simp [Utf8.encode, v, Utf8.runeError]
  have v : Utf8.valid (r : Int) = true := by simp [Utf8.valid]; omega
  by_cases c1 : r < 128
  · rw [Lib.encodeRuneZ_one (by omega) (by omega)]
    simp [Utf8.encode, v, c1]
  by_cases c2 : r < 2048
  · rw [Lib.encodeRuneZ_two (by omega) (by omega)]
    have e1 : (192 + (r : Int) / 64).toNat = 192 + r / 64 := by omega
    have e2 : (128 + (r : Int) % 64).toNat = 128 + r % 64 := by omega
    simp only [List.map_cons, List.map_nil, e1, e2]
    simp [Utf8.encode, v, c1, c2]
  by_cases c3 : r < 65536
  · rw [Lib.encodeRuneZ_three (by omega)]
    have e1 : (224 + (r : Int) / 4096).toNat = 224 + r / 4096 := by omega
    have e2 : (128 + (r : Int) / 64 % 64).toNat = 128 + r / 64 % 64 := by omega
    have e3 : (128 + (r : Int) % 64).toNat = 128 + r % 64 := by omega
    simp only [List.map_cons, List.map_nil, e1, e2, e3]
    simp [Utf8.encode, v, c1, c2, c3]
  · rw [Lib.encodeRuneZ_four (by omega) (by omega)]
    have e1 : (240 + (r : Int) / 262144).toNat = 240 + r / 262144 := by omega
    have e2 : (128 + (r : Int) / 4096 % 64).toNat = 128 + r / 4096 % 64 := by omega
    have e3 : (128 + (r : Int) / 64 % 64).toNat = 128 + r / 64 % 64 := by omega
    have e4 : (128 + (r : Int) % 64).toNat = 128 + r % 64 := by omega
    simp only [List.map_cons, List.map_nil, e1, e2, e3, e4]
    simp [Utf8.encode, v, c1, c2, c3]
/-- what 'right' says -/
def rgtB (n : Int) : Bool := n == 9 || n == 10 || n == 13 || (decide (32 ≤ n) && (Lib.encodeRune n != [239, 191, 189]))
theorem enc_bad {n : Int} (h0 : 0 ≤ n) (h : Lib.encodeRune n = [239, 191, 189]) : n = 65533 ∨ ¬ (n ≤ 1114111 ∧ ¬ (55296 ≤ n ∧ n ≤ 57343)) := by
  have h1 := first_enc n []
  rw [List.append_nil, h] at h1
  have h2 : firstL [239, 191, 189] = (65533, 3) := by decide
  rw [h2] at h1
  injection h1 with h1 _
  unfold normR at h1
  split at h1
  · left; omega
  · right; omega
theorem enc_good {n : Int} (h0 : 0 ≤ n) (h : ¬ (n ≤ 1114111 ∧ ¬ (55296 ≤ n ∧ n ≤ 57343))) : Lib.encodeRune n = [239, 191, 189] := by
  unfold Lib.encodeRune
  rw [Lib.encodeRuneZ_bad (by omega)]
  decide
theorem rgt_ok {n : Int} (h0 : 0 ≤ n) : (if rgtB n then n else 65533) = (if okSign n then n else 65533) := by
  by_cases h1 : n = 9 ∨ n = 10 ∨ n = 13
  · rcases h1 with rfl | rfl | rfl <;> rfl
  have e1 : rgtB n = (decide (32 ≤ n) && (Lib.encodeRune n != [239, 191, 189])) := by
    unfold rgtB
    have a : (n == 9) = false := by simp; omega
    have b : (n == 10) = false := by simp; omega
    have c : (n == 13) = false := by simp; omega
    rw [a, b, c]
    rfl
  have e2 : okSign n = (decide (32 ≤ n) && decide (n ≤ 1114111) && !(decide (55296 ≤ n) && decide (n ≤ 57343))) := by
    unfold okSign
    have a : (n == 9) = false := by simp; omega
    have b : (n == 10) = false := by simp; omega
    have c : (n == 13) = false := by simp; omega
    rw [a, b, c]
    rfl
  rw [e1, e2]
  by_cases h32 : 32 ≤ n
  · by_cases hv : n ≤ 1114111 ∧ ¬ (55296 ≤ n ∧ n ≤ 57343)
    · have hr : (decide (32 ≤ n) && decide (n ≤ 1114111) && !(decide (55296 ≤ n) && decide (n ≤ 57343))) = true := by simp; omega
      rw [hr, if_pos rfl]
      by_cases he : Lib.encodeRune n = [239, 191, 189]
      · rcases enc_bad h0 he with e | e
        · rw [he]; subst e; rfl
        · exact absurd hv e
      · rw [if_pos (by simp [h32]; exact he)]
    · have hr : (decide (32 ≤ n) && decide (n ≤ 1114111) && !(decide (55296 ≤ n) && decide (n ≤ 57343))) = false := by
        rw [Bool.eq_false_iff]; simp; omega
      rw [hr, enc_good h0 hv]
      simp
  · simp [h32]

set_option maxHeartbeats 2000000 in
theorem right7_any (n : Int) (w : World) (h0 : 0 ≤ n) (h1 : n < 268435456) : Calls Try.prog 79 #[.int .i64 n] w fun e w' => e = .returned (.bool (rgtB n)) ∧ Below w.heap.size w w' := by
  by_cases c9 : n = 9
  · subst c9
    go_enter Try.func79, Try.ntmps79
    go_wp2_with fail
    go_ret
    exact ⟨rfl, Below.refl _ _⟩
  by_cases c10 : n = 10
  · subst c10
    go_enter Try.func79, Try.ntmps79
    go_wp2_with fail
    go_ret
    exact ⟨rfl, Below.refl _ _⟩
  by_cases c13 : n = 13
  · subst c13
    go_enter Try.func79, Try.ntmps79
    go_wp2_with fail
    go_ret
    exact ⟨rfl, Below.refl _ _⟩
  have d9 : (n == 9) = false := by simp; omega
  have d10 : (n == 10) = false := by simp; omega
  have d13 : (n == 13) = false := by simp; omega
  have HE : Hid (rgtB n = (decide (32 ≤ n) && (Lib.encodeRune n != [239, 191, 189]))) := Lib.hid (by unfold rgtB; rw [d9, d10, d13]; rfl)
  by_cases h32 : 32 ≤ n
  · obtain ⟨r, rfl⟩ : ∃ r : Nat, n = (r : Int) := ⟨n.toNat, by omega⟩
    have he := encode_bytes r
    have hl := enc_len (r : Int)
    have HR := Lib.hid (fun W => right_any ⟨(Lib.encodeRune (r : Int)).toArray⟩ W (by rw [size_of]; omega))
    have hrt : rightL (Lib.encodeRune (r : Int)) = true := by have := right_put [(r : Int)]; simpa [putR] using this
    rw [bl_of, hrt] at HR
    have d32 : decide ((32 : Int) ≤ (r : Int)) = true := by simp; omega
    rw [d32, Bool.true_and] at HE
    clear hrt hl c9 c10 c13
    generalize Lib.encodeRune (r : Int) = el at *
    by_cases hb : el = [239, 191, 189]
    · have HE : Hid (rgtB (r : Int) = false) := by rw [HE.out, hb]; exact Lib.hid rfl
      subst hb
      go_enter Try.func79, Try.ntmps79
      go_wp2_with fail
      (with_reducible refine (HR.out w).mono ?_)
      rintro e w1 ⟨rfl, hb⟩
      go_wp2_with fail
      go_ret
      exact ⟨by rw [HE.out]; rfl, hb⟩
    · have HE : Hid (rgtB (r : Int) = true) := by rw [HE.out]; exact Lib.hid (by simpa using hb)
      have db : (el == [239, 191, 189]) = false := by simpa using hb
      have db2 : (el != [239, 191, 189]) = true := by simpa using hb
      go_enter Try.func79, Try.ntmps79
      go_wp2_with fail
      (with_reducible refine (HR.out w).mono ?_)
      rintro e w1 ⟨rfl, hb⟩
      go_wp2_with fail
      go_ret
      exact ⟨by rw [HE.out]; rfl, hb⟩
  · have d32 : decide ((32 : Int) ≤ n) = false := by simp; omega
    rw [d32, Bool.false_and] at HE
    go_enter Try.func79, Try.ntmps79
    go_wp2_with fail
    go_ret
    exact ⟨by rw [HE.out]; rfl, Below.refl _ _⟩

/-- what is handed back of a sign -/
def signV (r : Option Int) : Value := match r with
  | some c => .tuple #[.int .i32 c, .bool true]
  | none => .tuple #[.int .i32 0, .bool false]
theorem signL_other {l : List UInt8} (h1 : (l == [97, 109, 112]) = false) (h2 : (l == [108, 116]) = false) (h3 : (l == [103, 116]) = false) (h4 : (l == [113, 117, 111, 116]) = false) (h5 : (l == [97, 112, 111, 115]) = false) : signL l = signNum (signN l) := by
  unfold signL
  rw [if_neg (by simpa using h1), if_neg (by simpa using h2), if_neg (by simpa using h3), if_neg (by simpa using h4), if_neg (by simpa using h5)]
theorem hp_ne {l p : List UInt8} (h : Lib.hasPrefix l p = true) : ∃ t, l = p ++ t := by
  simp only [Lib.hasPrefix, List.isPrefixOf_iff_prefix] at h
  obtain ⟨t, rfl⟩ := h
  exact ⟨t, rfl⟩

theorem signNum_rgt {n : Int} (h : ¬ n < 0) : signNum n = some (if rgtB n then n else 65533) := by
  rw [rgt_ok (by omega)]
  unfold signNum
  rw [if_neg h]
  split <;> simp_all
set_option maxHeartbeats 4000000 in
theorem sign_any (l : List UInt8) (w : World) (hS : l.length ≤ 1000000) : Calls Try.prog 62 #[.string ⟨l.toArray⟩] w fun e w' => e = .returned (signV (signL l)) ∧ Below w.heap.size w w' := by
  by_cases c1 : l = [97, 109, 112]
  · subst c1
    go_enter Try.func62, Try.ntmps62
    go_wp2_with fail
    go_ret2
    exact ⟨rfl, Below.refl _ _⟩
  by_cases c2 : l = [108, 116]
  · subst c2
    go_enter Try.func62, Try.ntmps62
    go_wp2_with fail
    go_ret2
    exact ⟨rfl, Below.refl _ _⟩
  by_cases c3 : l = [103, 116]
  · subst c3
    go_enter Try.func62, Try.ntmps62
    go_wp2_with fail
    go_ret2
    exact ⟨rfl, Below.refl _ _⟩
  by_cases c4 : l = [113, 117, 111, 116]
  · subst c4
    go_enter Try.func62, Try.ntmps62
    go_wp2_with fail
    go_ret2
    exact ⟨rfl, Below.refl _ _⟩
  by_cases c5 : l = [97, 112, 111, 115]
  · subst c5
    go_enter Try.func62, Try.ntmps62
    go_wp2_with fail
    go_ret2
    exact ⟨rfl, Below.refl _ _⟩
  have d1 : (l == [97, 109, 112]) = false := by simpa using c1
  have d2 : (l == [108, 116]) = false := by simpa using c2
  have d3 : (l == [103, 116]) = false := by simpa using c3
  have d4 : (l == [113, 117, 111, 116]) = false := by simpa using c4
  have d5 : (l == [97, 112, 111, 115]) = false := by simpa using c5
  have HE := Lib.hid (signL_other d1 d2 d3 d4 d5)
  clear c1 c2 c3 c4 c5
  have HP1 := Lib.hid (fun W => Try.strings_CutPrefix ⟨l.toArray⟩ ⟨#[35, 120]⟩ W)
  have HP2 := Lib.hid (fun W => Try.strings_CutPrefix ⟨l.toArray⟩ ⟨#[35]⟩ W)
  simp only [List.toList_toArray] at HP1 HP2
  have hsb := signN_bd l
  by_cases p1 : Lib.hasPrefix l [35, 120] = true
  · have hsn : signN l = numberL (l.drop 2) 16 6 := by unfold signN; rw [if_pos p1]
    have htp : Lib.trimPrefix l [35, 120] = l.drop 2 := by unfold Lib.trimPrefix; rw [if_pos p1]; rfl
    rw [p1, htp] at HP1
    have HN := Lib.hid (fun W => number_any7 ⟨(l.drop 2).toArray⟩ 16 6 W (by omega) (by omega) (by rw [size_of, List.length_drop]; omega))
    rw [bl_of, ← hsn] at HN
    clear p1 htp hsn HP2
    generalize signN l = n at *
    generalize l.drop 2 = t2 at *
    by_cases hn : n < 0
    · have HV : Hid (signL l = none) := Lib.hid (by rw [HE.out]; unfold signNum; rw [if_pos hn])
      have dn : decide (n < 0) = true := by simp; omega
      clear HE
      go_enter Try.func62, Try.ntmps62
      go_wp2_with fail
      (with_reducible refine (HP1.out w).mono ?_)
      rintro e w0 ⟨rfl, rfl⟩
      go_wp2_with fail
      (with_reducible refine (HN.out _).mono ?_)
      rintro e w1 ⟨rfl, B1⟩
      go_wp2_with fail
      go_ret2
      rw [HV.out]
      exact ⟨rfl, B1⟩
    · have dn : decide (n < 0) = false := by simp; omega
      have HV := Lib.hid (HE.out.trans (signNum_rgt hn))
      have HR := Lib.hid (fun W => right7_any n W (by omega) (by omega))
      have hn32 : IntKind.i32.wrap n = n := IntWalk.i32_in _ (by omega)
      clear HE
      cases hb : rgtB n with
      | true =>
        rw [hb] at HV HR
        clear hb
        go_enter Try.func62, Try.ntmps62
        go_wp2_with fail
        (with_reducible refine (HP1.out w).mono ?_)
        rintro e w0 ⟨rfl, rfl⟩
        go_wp2_with fail
        (with_reducible refine (HN.out _).mono ?_)
        rintro e w1 ⟨rfl, B1⟩
        go_wp2_with fail
        (with_reducible refine (HR.out _).mono ?_)
        rintro e w2 ⟨rfl, hb2⟩
        go_wp2_with fail
        go_ret2
        rw [HV.out]
        exact ⟨rfl, bel_step B1 hb2⟩
      | false =>
        rw [hb] at HV HR
        clear hb
        go_enter Try.func62, Try.ntmps62
        go_wp2_with fail
        (with_reducible refine (HP1.out w).mono ?_)
        rintro e w0 ⟨rfl, rfl⟩
        go_wp2_with fail
        (with_reducible refine (HN.out _).mono ?_)
        rintro e w1 ⟨rfl, B1⟩
        go_wp2_with fail
        (with_reducible refine (HR.out _).mono ?_)
        rintro e w2 ⟨rfl, hb2⟩
        go_wp2_with fail
        go_ret2
        rw [HV.out]
        exact ⟨rfl, bel_step B1 hb2⟩
  have p1' : Lib.hasPrefix l [35, 120] = false := by simpa using p1
  rw [p1'] at HP1
  by_cases p2 : Lib.hasPrefix l [35] = true
  · have hsn : signN l = numberL (l.drop 1) 10 7 := by unfold signN; rw [if_neg p1, if_pos p2]
    have htp : Lib.trimPrefix l [35] = l.drop 1 := by unfold Lib.trimPrefix; rw [if_pos p2]; rfl
    rw [p2, htp] at HP2
    have HN := Lib.hid (fun W => number_any7 ⟨(l.drop 1).toArray⟩ 10 7 W (by omega) (by omega) (by rw [size_of, List.length_drop]; omega))
    rw [bl_of, ← hsn] at HN
    clear p1 p1' p2 htp hsn
    generalize signN l = n at *
    generalize l.drop 1 = t1 at *
    by_cases hn : n < 0
    · have HV : Hid (signL l = none) := Lib.hid (by rw [HE.out]; unfold signNum; rw [if_pos hn])
      have dn : decide (n < 0) = true := by simp; omega
      clear HE
      go_enter Try.func62, Try.ntmps62
      go_wp2_with fail
      (with_reducible refine (HP1.out w).mono ?_)
      rintro e w0 ⟨rfl, rfl⟩
      go_wp2_with fail
      (with_reducible refine (HP2.out _).mono ?_)
      rintro e w0 ⟨rfl, rfl⟩
      go_wp2_with fail
      (with_reducible refine (HN.out _).mono ?_)
      rintro e w1 ⟨rfl, B1⟩
      go_wp2_with fail
      go_ret2
      rw [HV.out]
      exact ⟨rfl, B1⟩
    · have dn : decide (n < 0) = false := by simp; omega
      have HV := Lib.hid (HE.out.trans (signNum_rgt hn))
      have HR := Lib.hid (fun W => right7_any n W (by omega) (by omega))
      have hn32 : IntKind.i32.wrap n = n := IntWalk.i32_in _ (by omega)
      clear HE
      cases hb : rgtB n with
      | true =>
        rw [hb] at HV HR
        clear hb
        go_enter Try.func62, Try.ntmps62
        go_wp2_with fail
        (with_reducible refine (HP1.out w).mono ?_)
        rintro e w0 ⟨rfl, rfl⟩
        go_wp2_with fail
        (with_reducible refine (HP2.out _).mono ?_)
        rintro e w0 ⟨rfl, rfl⟩
        go_wp2_with fail
        (with_reducible refine (HN.out _).mono ?_)
        rintro e w1 ⟨rfl, B1⟩
        go_wp2_with fail
        (with_reducible refine (HR.out _).mono ?_)
        rintro e w2 ⟨rfl, hb2⟩
        go_wp2_with fail
        go_ret2
        rw [HV.out]
        exact ⟨rfl, bel_step B1 hb2⟩
      | false =>
        rw [hb] at HV HR
        clear hb
        go_enter Try.func62, Try.ntmps62
        go_wp2_with fail
        (with_reducible refine (HP1.out w).mono ?_)
        rintro e w0 ⟨rfl, rfl⟩
        go_wp2_with fail
        (with_reducible refine (HP2.out _).mono ?_)
        rintro e w0 ⟨rfl, rfl⟩
        go_wp2_with fail
        (with_reducible refine (HN.out _).mono ?_)
        rintro e w1 ⟨rfl, B1⟩
        go_wp2_with fail
        (with_reducible refine (HR.out _).mono ?_)
        rintro e w2 ⟨rfl, hb2⟩
        go_wp2_with fail
        go_ret2
        rw [HV.out]
        exact ⟨rfl, bel_step B1 hb2⟩
  · have p2' : Lib.hasPrefix l [35] = false := by simpa using p2
    have hsn : signN l = -1 := by unfold signN; rw [if_neg p1, if_neg p2]
    rw [p2'] at HP2
    have HV : Hid (signL l = none) := Lib.hid (by rw [HE.out, hsn]; rfl)
    clear p1 p1' p2 p2' hsn HE hsb
    go_enter Try.func62, Try.ntmps62
    go_wp2_with fail
    (with_reducible refine (HP1.out w).mono ?_)
    rintro e w0 ⟨rfl, rfl⟩
    go_wp2_with fail
    (with_reducible refine (HP2.out _).mono ?_)
    rintro e w0 ⟨rfl, rfl⟩
    go_wp2_with fail
    go_ret2
    rw [HV.out]
    exact ⟨rfl, Below.refl _ _⟩

theorem signNum_bad {n : Int} (h : ¬ n < 0) (hb : (n < 32 ∧ n ≠ 9 ∧ n ≠ 10 ∧ n ≠ 13) ∨ 1114111 < n ∨ (55296 ≤ n ∧ n ≤ 57343)) : signNum n = some 65533 := by
  unfold signNum
  rw [if_neg h, if_neg]
  simp [okSign]
  omega
theorem signNum_good {n : Int} (h : ¬ n < 0) (hb : 32 ≤ n ∧ n ≤ 1114111 ∧ ¬ (55296 ≤ n ∧ n ≤ 57343)) : signNum n = some n := by
  unfold signNum
  rw [if_neg h, if_pos]
  simp [okSign]
  omega
theorem hp_one {l : List UInt8} {u : UInt8} (h : l[0]? = some u) (hu : u.toNat = 35) : Lib.hasPrefix l [35] = true := by
  cases l with
  | nil => simp at h
  | cons c t =>
    simp at h
    subst h
    have : c = 35 := UInt8.toNat_inj.1 hu
    subst this
    simp [Lib.hasPrefix, List.isPrefixOf]
theorem hp_one' {l : List UInt8} {u : UInt8} (h : l[0]? = some u) (hp : Lib.hasPrefix l [35] = true) : u.toNat = 35 := by
  obtain ⟨t, rfl⟩ := hp_ne hp
  simp at h
  rw [← h]
  rfl
theorem hp_two {l : List UInt8} (h : Lib.hasPrefix l [35, 120] = true) (hl : ¬ 2 < l.length) : l = [35, 120] := by
  obtain ⟨t, rfl⟩ := hp_ne h
  have : t = [] := by simpa using hl
  rw [this]
  rfl
theorem sn_dec {l : List UInt8} (h : ¬ (2 < l.length ∧ Lib.hasPrefix l [35, 120] = true)) (h1 : 1 < l.length) (hp : Lib.hasPrefix l [35] = true) : signN l = numberL (l.drop 1) 10 7 := by
  by_cases q : Lib.hasPrefix l [35, 120] = true
  · rw [hp_two q (fun x => h ⟨x, q⟩)]
    decide
  · unfold signN
    rw [if_neg q, if_pos hp]
theorem sn_none {l : List UInt8} (h : ¬ (2 < l.length ∧ Lib.hasPrefix l [35, 120] = true)) (h1 : ¬ (1 < l.length ∧ Lib.hasPrefix l [35] = true)) : signN l = -1 := by
  by_cases q : Lib.hasPrefix l [35, 120] = true
  · rw [hp_two q (fun x => h ⟨x, q⟩)]
    decide
  · unfold signN
    rw [if_neg q]
    by_cases q1 : Lib.hasPrefix l [35] = true
    · rw [if_pos q1]
      obtain ⟨t, rfl⟩ := hp_ne q1
      have ht : t = [] := by
        rcases t with _ | ⟨c, t⟩
        · rfl
        · exact absurd ⟨by simp, q1⟩ h1
      subst ht
      decide
    · rw [if_neg q1]
set_option maxHeartbeats 4000000 in
theorem refSign_any (s : ByteArray) (w : World) (hS : s.size ≤ 1000000) : Calls Try.prog 65 #[.string s] w fun e w' => e = .returned (signV (signL (bl s))) ∧ w = w' := by
  have hbl := bl_len s
  have htl : s.toList = bl s := ByteArray.toList_eq s
  by_cases c1 : bl s = [97, 109, 112]
  · obtain rfl : s = ⟨#[97, 109, 112]⟩ := by rw [← bl_mk s, c1]
    clear c1
    go_enter Try.func65, Try.ntmps65
    go_wp2_with fail
    go_ret2
    exact ⟨rfl, rfl⟩
  by_cases c2 : bl s = [108, 116]
  · obtain rfl : s = ⟨#[108, 116]⟩ := by rw [← bl_mk s, c2]
    clear c2
    go_enter Try.func65, Try.ntmps65
    go_wp2_with fail
    go_ret2
    exact ⟨rfl, rfl⟩
  by_cases c3 : bl s = [103, 116]
  · obtain rfl : s = ⟨#[103, 116]⟩ := by rw [← bl_mk s, c3]
    clear c3
    go_enter Try.func65, Try.ntmps65
    go_wp2_with fail
    go_ret2
    exact ⟨rfl, rfl⟩
  by_cases c4 : bl s = [113, 117, 111, 116]
  · obtain rfl : s = ⟨#[113, 117, 111, 116]⟩ := by rw [← bl_mk s, c4]
    clear c4
    go_enter Try.func65, Try.ntmps65
    go_wp2_with fail
    go_ret2
    exact ⟨rfl, rfl⟩
  by_cases c5 : bl s = [97, 112, 111, 115]
  · obtain rfl : s = ⟨#[97, 112, 111, 115]⟩ := by rw [← bl_mk s, c5]
    clear c5
    go_enter Try.func65, Try.ntmps65
    go_wp2_with fail
    go_ret2
    exact ⟨rfl, rfl⟩
  have d1 : (s.toList == [97, 109, 112]) = false := by rw [htl]; simpa using c1
  have d2 : (s.toList == [108, 116]) = false := by rw [htl]; simpa using c2
  have d3 : (s.toList == [103, 116]) = false := by rw [htl]; simpa using c3
  have d4 : (s.toList == [113, 117, 111, 116]) = false := by rw [htl]; simpa using c4
  have d5 : (s.toList == [97, 112, 111, 115]) = false := by rw [htl]; simpa using c5
  have HE : Hid (signL (bl s) = signNum (signN (bl s))) := Lib.hid (signL_other (by simpa using c1) (by simpa using c2) (by simpa using c3) (by simpa using c4) (by simpa using c5))
  clear c1 c2 c3 c4 c5 htl
  have hsb := signN_bd (bl s)
  by_cases p1 : 2 < s.size ∧ Lib.hasPrefix (bl s) [35, 120] = true
  · obtain ⟨p1, p2⟩ := p1
    have hsn : signN (bl s) = numberL ((bl s).drop 2) 16 6 := by unfold signN; rw [if_pos p2]
    have hx : ((s.extract 0 2).toList == [35, 120]) = true := by
      rw [show (s.extract 0 2).toList = bl (s.extract 0 2) from ByteArray.toList_eq _, bl_upto]
      obtain ⟨t, ht⟩ := hp_ne p2
      rw [ht]
      rfl
    have HN := Lib.hid (fun W => refNumber_any7 (s.extract 2 s.size) 16 6 W (by omega) (by omega) (by rw [size_from]; omega))
    rw [bl_from, ← hsn] at HN
    have e1 : decide (2 < s.size) = true := by simp; omega
    clear p2 hsn
    generalize signN (bl s) = n at *
    by_cases hn : n < 0
    · have HV : Hid (signL (bl s) = none) := Lib.hid (by rw [HE.out]; unfold signNum; rw [if_pos hn])
      have dn : decide (n < 0) = true := by simp; omega
      clear HE
      go_enter Try.func65, Try.ntmps65
      go_wp2_with fail
      (with_reducible refine (HN.out _).mono ?_)
      rintro e w1 ⟨rfl, rfl⟩
      go_wp2_with fail
      go_ret2
      rw [HV.out]
      exact ⟨rfl, rfl⟩
    have dn : decide (n < 0) = false := by simp; omega
    have hn32 : IntKind.i32.wrap n = n := IntWalk.i32_in _ (by omega)
    by_cases q32 : n < 32
    · have d32 : decide (n < 32) = true := by simp; omega
      have dbig : decide (1114111 < n) = false := by simp; omega
      have dsu : decide (55296 ≤ n) = false := by simp; omega
      by_cases q9 : n = 9
      · subst q9
        have HV : Hid (signL (bl s) = some 9) := Lib.hid (by rw [HE.out]; rfl)
        clear HE
        go_enter Try.func65, Try.ntmps65
        go_wp2_with fail
        (with_reducible refine (HN.out _).mono ?_)
        rintro e w1 ⟨rfl, rfl⟩
        go_wp2_with fail
        go_ret2
        rw [HV.out]
        exact ⟨rfl, rfl⟩
      by_cases q10 : n = 10
      · subst q10
        have HV : Hid (signL (bl s) = some 10) := Lib.hid (by rw [HE.out]; rfl)
        clear HE
        go_enter Try.func65, Try.ntmps65
        go_wp2_with fail
        (with_reducible refine (HN.out _).mono ?_)
        rintro e w1 ⟨rfl, rfl⟩
        go_wp2_with fail
        go_ret2
        rw [HV.out]
        exact ⟨rfl, rfl⟩
      by_cases q13 : n = 13
      · subst q13
        have HV : Hid (signL (bl s) = some 13) := Lib.hid (by rw [HE.out]; rfl)
        clear HE
        go_enter Try.func65, Try.ntmps65
        go_wp2_with fail
        (with_reducible refine (HN.out _).mono ?_)
        rintro e w1 ⟨rfl, rfl⟩
        go_wp2_with fail
        go_ret2
        rw [HV.out]
        exact ⟨rfl, rfl⟩
      have d9 : (n != 9) = true := by simp; omega
      have d10 : (n != 10) = true := by simp; omega
      have d13 : (n != 13) = true := by simp; omega
      have HV : Hid (signL (bl s) = some 65533) := Lib.hid (by rw [HE.out]; exact signNum_bad hn (by omega))
      clear HE q9 q10 q13
      go_enter Try.func65, Try.ntmps65
      go_wp2_with fail
      (with_reducible refine (HN.out _).mono ?_)
      rintro e w1 ⟨rfl, rfl⟩
      go_wp2_with fail
      go_ret2
      rw [HV.out]
      exact ⟨rfl, rfl⟩
    have d32 : decide (n < 32) = false := by simp; omega
    by_cases qbig : 1114111 < n
    · have dbig : decide (1114111 < n) = true := by simp; omega
      have HV : Hid (signL (bl s) = some 65533) := Lib.hid (by rw [HE.out]; exact signNum_bad hn (by omega))
      clear HE
      go_enter Try.func65, Try.ntmps65
      go_wp2_with fail
      (with_reducible refine (HN.out _).mono ?_)
      rintro e w1 ⟨rfl, rfl⟩
      go_wp2_with fail
      go_ret2
      rw [HV.out]
      exact ⟨rfl, rfl⟩
    have dbig : decide (1114111 < n) = false := by simp; omega
    by_cases qs1 : 55296 ≤ n
    · have ds1 : decide (55296 ≤ n) = true := by simp; omega
      by_cases qs2 : n ≤ 57343
      · have ds2 : decide (n ≤ 57343) = true := by simp; omega
        have HV : Hid (signL (bl s) = some 65533) := Lib.hid (by rw [HE.out]; exact signNum_bad hn (by omega))
        clear HE
        go_enter Try.func65, Try.ntmps65
        go_wp2_with fail
        (with_reducible refine (HN.out _).mono ?_)
        rintro e w1 ⟨rfl, rfl⟩
        go_wp2_with fail
        go_ret2
        rw [HV.out]
        exact ⟨rfl, rfl⟩
      · have ds2 : decide (n ≤ 57343) = false := by simp; omega
        have HV : Hid (signL (bl s) = some n) := Lib.hid (by rw [HE.out]; exact signNum_good hn (by omega))
        clear HE
        go_enter Try.func65, Try.ntmps65
        go_wp2_with fail
        (with_reducible refine (HN.out _).mono ?_)
        rintro e w1 ⟨rfl, rfl⟩
        go_wp2_with fail
        go_ret2
        rw [HV.out]
        exact ⟨rfl, rfl⟩
    · have ds1 : decide (55296 ≤ n) = false := by simp; omega
      have HV : Hid (signL (bl s) = some n) := Lib.hid (by rw [HE.out]; exact signNum_good hn (by omega))
      clear HE
      go_enter Try.func65, Try.ntmps65
      go_wp2_with fail
      (with_reducible refine (HN.out _).mono ?_)
      rintro e w1 ⟨rfl, rfl⟩
      go_wp2_with fail
      go_ret2
      rw [HV.out]
      exact ⟨rfl, rfl⟩
  rw [← hbl] at p1
  by_cases q2 : 2 < s.size
  · have e1 : decide (2 < s.size) = true := by simp; omega
    have hx : ((s.extract 0 2).toList == [35, 120]) = false := by
      rw [show (s.extract 0 2).toList = bl (s.extract 0 2) from ByteArray.toList_eq _, bl_upto]
      rw [beq_eq_false_iff_ne]
      intro e
      refine p1 ⟨by omega, ?_⟩
      simp only [Lib.hasPrefix, List.isPrefixOf_iff_prefix]
      exact ⟨(bl s).drop 2, by rw [← e, List.take_append_drop]⟩
    by_cases q1 : 1 < s.size
    · have e2 : decide (1 < s.size) = true := by simp; omega
      have hu := bl_get s 0 (by omega)
      obtain ⟨u, hu0⟩ : ∃ u, s[0]'(by omega) = u := ⟨_, rfl⟩
      rw [hu0] at hu
      by_cases q35 : u.toNat = 35
      · have e3 : ((u.toNat : Int) == 35) = true := by simp; omega
        have hsn := sn_dec p1 (by omega) (hp_one hu q35)
        have HN := Lib.hid (fun W => refNumber_any7 (s.extract 1 s.size) 10 7 W (by omega) (by omega) (by rw [size_from]; omega))
        rw [bl_from, ← hsn] at HN
        clear p1 hsn q35 hu
        generalize signN (bl s) = n at *
        by_cases hn : n < 0
        · have HV : Hid (signL (bl s) = none) := Lib.hid (by rw [HE.out]; unfold signNum; rw [if_pos hn])
          have dn : decide (n < 0) = true := by simp; omega
          clear HE
          go_enter Try.func65, Try.ntmps65
          go_wp2_with fail
          (with_reducible refine (HN.out _).mono ?_)
          rintro e w1 ⟨rfl, rfl⟩
          go_wp2_with fail
          go_ret2
          rw [HV.out]
          exact ⟨rfl, rfl⟩
        have dn : decide (n < 0) = false := by simp; omega
        have hn32 : IntKind.i32.wrap n = n := IntWalk.i32_in _ (by omega)
        by_cases q32 : n < 32
        · have d32 : decide (n < 32) = true := by simp; omega
          have dbig : decide (1114111 < n) = false := by simp; omega
          have dsu : decide (55296 ≤ n) = false := by simp; omega
          by_cases q9 : n = 9
          · subst q9
            have HV : Hid (signL (bl s) = some 9) := Lib.hid (by rw [HE.out]; rfl)
            clear HE
            go_enter Try.func65, Try.ntmps65
            go_wp2_with fail
            (with_reducible refine (HN.out _).mono ?_)
            rintro e w1 ⟨rfl, rfl⟩
            go_wp2_with fail
            go_ret2
            rw [HV.out]
            exact ⟨rfl, rfl⟩
          by_cases q10 : n = 10
          · subst q10
            have HV : Hid (signL (bl s) = some 10) := Lib.hid (by rw [HE.out]; rfl)
            clear HE
            go_enter Try.func65, Try.ntmps65
            go_wp2_with fail
            (with_reducible refine (HN.out _).mono ?_)
            rintro e w1 ⟨rfl, rfl⟩
            go_wp2_with fail
            go_ret2
            rw [HV.out]
            exact ⟨rfl, rfl⟩
          by_cases q13 : n = 13
          · subst q13
            have HV : Hid (signL (bl s) = some 13) := Lib.hid (by rw [HE.out]; rfl)
            clear HE
            go_enter Try.func65, Try.ntmps65
            go_wp2_with fail
            (with_reducible refine (HN.out _).mono ?_)
            rintro e w1 ⟨rfl, rfl⟩
            go_wp2_with fail
            go_ret2
            rw [HV.out]
            exact ⟨rfl, rfl⟩
          have d9 : (n != 9) = true := by simp; omega
          have d10 : (n != 10) = true := by simp; omega
          have d13 : (n != 13) = true := by simp; omega
          have HV : Hid (signL (bl s) = some 65533) := Lib.hid (by rw [HE.out]; exact signNum_bad hn (by omega))
          clear HE q9 q10 q13
          go_enter Try.func65, Try.ntmps65
          go_wp2_with fail
          (with_reducible refine (HN.out _).mono ?_)
          rintro e w1 ⟨rfl, rfl⟩
          go_wp2_with fail
          go_ret2
          rw [HV.out]
          exact ⟨rfl, rfl⟩
        have d32 : decide (n < 32) = false := by simp; omega
        by_cases qbig : 1114111 < n
        · have dbig : decide (1114111 < n) = true := by simp; omega
          have HV : Hid (signL (bl s) = some 65533) := Lib.hid (by rw [HE.out]; exact signNum_bad hn (by omega))
          clear HE
          go_enter Try.func65, Try.ntmps65
          go_wp2_with fail
          (with_reducible refine (HN.out _).mono ?_)
          rintro e w1 ⟨rfl, rfl⟩
          go_wp2_with fail
          go_ret2
          rw [HV.out]
          exact ⟨rfl, rfl⟩
        have dbig : decide (1114111 < n) = false := by simp; omega
        by_cases qs1 : 55296 ≤ n
        · have ds1 : decide (55296 ≤ n) = true := by simp; omega
          by_cases qs2 : n ≤ 57343
          · have ds2 : decide (n ≤ 57343) = true := by simp; omega
            have HV : Hid (signL (bl s) = some 65533) := Lib.hid (by rw [HE.out]; exact signNum_bad hn (by omega))
            clear HE
            go_enter Try.func65, Try.ntmps65
            go_wp2_with fail
            (with_reducible refine (HN.out _).mono ?_)
            rintro e w1 ⟨rfl, rfl⟩
            go_wp2_with fail
            go_ret2
            rw [HV.out]
            exact ⟨rfl, rfl⟩
          · have ds2 : decide (n ≤ 57343) = false := by simp; omega
            have HV : Hid (signL (bl s) = some n) := Lib.hid (by rw [HE.out]; exact signNum_good hn (by omega))
            clear HE
            go_enter Try.func65, Try.ntmps65
            go_wp2_with fail
            (with_reducible refine (HN.out _).mono ?_)
            rintro e w1 ⟨rfl, rfl⟩
            go_wp2_with fail
            go_ret2
            rw [HV.out]
            exact ⟨rfl, rfl⟩
        · have ds1 : decide (55296 ≤ n) = false := by simp; omega
          have HV : Hid (signL (bl s) = some n) := Lib.hid (by rw [HE.out]; exact signNum_good hn (by omega))
          clear HE
          go_enter Try.func65, Try.ntmps65
          go_wp2_with fail
          (with_reducible refine (HN.out _).mono ?_)
          rintro e w1 ⟨rfl, rfl⟩
          go_wp2_with fail
          go_ret2
          rw [HV.out]
          exact ⟨rfl, rfl⟩
      · have e3 : ((u.toNat : Int) == 35) = false := by simp; omega
        have HV : Hid (signL (bl s) = none) := Lib.hid (by rw [HE.out, sn_none p1 (fun h => q35 (hp_one' hu h.2))]; rfl)
        clear p1 q35 hu HE
        clear hsb
        go_enter Try.func65, Try.ntmps65
        go_wp2_with fail
        go_ret2
        rw [HV.out]
        exact ⟨rfl, rfl⟩
    · omega
  · have e1 : decide (2 < s.size) = false := by simp; omega
    by_cases q1 : 1 < s.size
    · have e2 : decide (1 < s.size) = true := by simp; omega
      have hu := bl_get s 0 (by omega)
      obtain ⟨u, hu0⟩ : ∃ u, s[0]'(by omega) = u := ⟨_, rfl⟩
      rw [hu0] at hu
      by_cases q35 : u.toNat = 35
      · have e3 : ((u.toNat : Int) == 35) = true := by simp; omega
        have hsn := sn_dec p1 (by omega) (hp_one hu q35)
        have HN := Lib.hid (fun W => refNumber_any7 (s.extract 1 s.size) 10 7 W (by omega) (by omega) (by rw [size_from]; omega))
        rw [bl_from, ← hsn] at HN
        clear p1 hsn q35 hu
        generalize signN (bl s) = n at *
        by_cases hn : n < 0
        · have HV : Hid (signL (bl s) = none) := Lib.hid (by rw [HE.out]; unfold signNum; rw [if_pos hn])
          have dn : decide (n < 0) = true := by simp; omega
          clear HE
          go_enter Try.func65, Try.ntmps65
          go_wp2_with fail
          (with_reducible refine (HN.out _).mono ?_)
          rintro e w1 ⟨rfl, rfl⟩
          go_wp2_with fail
          go_ret2
          rw [HV.out]
          exact ⟨rfl, rfl⟩
        have dn : decide (n < 0) = false := by simp; omega
        have hn32 : IntKind.i32.wrap n = n := IntWalk.i32_in _ (by omega)
        by_cases q32 : n < 32
        · have d32 : decide (n < 32) = true := by simp; omega
          have dbig : decide (1114111 < n) = false := by simp; omega
          have dsu : decide (55296 ≤ n) = false := by simp; omega
          by_cases q9 : n = 9
          · subst q9
            have HV : Hid (signL (bl s) = some 9) := Lib.hid (by rw [HE.out]; rfl)
            clear HE
            go_enter Try.func65, Try.ntmps65
            go_wp2_with fail
            (with_reducible refine (HN.out _).mono ?_)
            rintro e w1 ⟨rfl, rfl⟩
            go_wp2_with fail
            go_ret2
            rw [HV.out]
            exact ⟨rfl, rfl⟩
          by_cases q10 : n = 10
          · subst q10
            have HV : Hid (signL (bl s) = some 10) := Lib.hid (by rw [HE.out]; rfl)
            clear HE
            go_enter Try.func65, Try.ntmps65
            go_wp2_with fail
            (with_reducible refine (HN.out _).mono ?_)
            rintro e w1 ⟨rfl, rfl⟩
            go_wp2_with fail
            go_ret2
            rw [HV.out]
            exact ⟨rfl, rfl⟩
          by_cases q13 : n = 13
          · subst q13
            have HV : Hid (signL (bl s) = some 13) := Lib.hid (by rw [HE.out]; rfl)
            clear HE
            go_enter Try.func65, Try.ntmps65
            go_wp2_with fail
            (with_reducible refine (HN.out _).mono ?_)
            rintro e w1 ⟨rfl, rfl⟩
            go_wp2_with fail
            go_ret2
            rw [HV.out]
            exact ⟨rfl, rfl⟩
          have d9 : (n != 9) = true := by simp; omega
          have d10 : (n != 10) = true := by simp; omega
          have d13 : (n != 13) = true := by simp; omega
          have HV : Hid (signL (bl s) = some 65533) := Lib.hid (by rw [HE.out]; exact signNum_bad hn (by omega))
          clear HE q9 q10 q13
          go_enter Try.func65, Try.ntmps65
          go_wp2_with fail
          (with_reducible refine (HN.out _).mono ?_)
          rintro e w1 ⟨rfl, rfl⟩
          go_wp2_with fail
          go_ret2
          rw [HV.out]
          exact ⟨rfl, rfl⟩
        have d32 : decide (n < 32) = false := by simp; omega
        by_cases qbig : 1114111 < n
        · have dbig : decide (1114111 < n) = true := by simp; omega
          have HV : Hid (signL (bl s) = some 65533) := Lib.hid (by rw [HE.out]; exact signNum_bad hn (by omega))
          clear HE
          go_enter Try.func65, Try.ntmps65
          go_wp2_with fail
          (with_reducible refine (HN.out _).mono ?_)
          rintro e w1 ⟨rfl, rfl⟩
          go_wp2_with fail
          go_ret2
          rw [HV.out]
          exact ⟨rfl, rfl⟩
        have dbig : decide (1114111 < n) = false := by simp; omega
        by_cases qs1 : 55296 ≤ n
        · have ds1 : decide (55296 ≤ n) = true := by simp; omega
          by_cases qs2 : n ≤ 57343
          · have ds2 : decide (n ≤ 57343) = true := by simp; omega
            have HV : Hid (signL (bl s) = some 65533) := Lib.hid (by rw [HE.out]; exact signNum_bad hn (by omega))
            clear HE
            go_enter Try.func65, Try.ntmps65
            go_wp2_with fail
            (with_reducible refine (HN.out _).mono ?_)
            rintro e w1 ⟨rfl, rfl⟩
            go_wp2_with fail
            go_ret2
            rw [HV.out]
            exact ⟨rfl, rfl⟩
          · have ds2 : decide (n ≤ 57343) = false := by simp; omega
            have HV : Hid (signL (bl s) = some n) := Lib.hid (by rw [HE.out]; exact signNum_good hn (by omega))
            clear HE
            go_enter Try.func65, Try.ntmps65
            go_wp2_with fail
            (with_reducible refine (HN.out _).mono ?_)
            rintro e w1 ⟨rfl, rfl⟩
            go_wp2_with fail
            go_ret2
            rw [HV.out]
            exact ⟨rfl, rfl⟩
        · have ds1 : decide (55296 ≤ n) = false := by simp; omega
          have HV : Hid (signL (bl s) = some n) := Lib.hid (by rw [HE.out]; exact signNum_good hn (by omega))
          clear HE
          go_enter Try.func65, Try.ntmps65
          go_wp2_with fail
          (with_reducible refine (HN.out _).mono ?_)
          rintro e w1 ⟨rfl, rfl⟩
          go_wp2_with fail
          go_ret2
          rw [HV.out]
          exact ⟨rfl, rfl⟩
      · have e3 : ((u.toNat : Int) == 35) = false := by simp; omega
        have HV : Hid (signL (bl s) = none) := Lib.hid (by rw [HE.out, sn_none p1 (fun h => q35 (hp_one' hu h.2))]; rfl)
        clear p1 q35 hu HE
        clear hsb
        go_enter Try.func65, Try.ntmps65
        go_wp2_with fail
        go_ret2
        rw [HV.out]
        exact ⟨rfl, rfl⟩
    · have e2 : decide (1 < s.size) = false := by simp; omega
      have HV : Hid (signL (bl s) = none) := Lib.hid (by rw [HE.out, sn_none p1 (fun h => q1 (by rw [← hbl]; exact h.1))]; rfl)
      clear p1 HE
      clear hsb
      go_enter Try.func65, Try.ntmps65
      go_wp2_with fail
      go_ret2
      rw [HV.out]
      exact ⟨rfl, rfl⟩
end Go.Proofs.Ytnagckdaleafdaa
