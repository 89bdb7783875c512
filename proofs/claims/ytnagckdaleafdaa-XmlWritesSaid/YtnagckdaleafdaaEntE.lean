/-
  The reference's Read.
-/
import Derived.Test.YtnagckdaleafdaaEntD
namespace Go.Proofs.Ytnagckdaleafdaa
open Go.RowKit Go.Nst
set_option maxRecDepth 100000
set_option linter.unusedVariables false
set_option linter.unusedSimpArgs false

theorem drop_at {l : List UInt8} {k : Nat} {u : UInt8} (h : l[k]? = some u) : l.drop k = u :: l.drop (k + 1) := by
  rw [List.drop_eq_getElem_cons (List.getElem?_eq_some_iff.1 h).1, (List.getElem?_eq_some_iff.1 h).2]
theorem semi_cut {l : List UInt8} {k j : Nat} (hj : l[j]? = some 59) (hall : ∀ i, k + 1 ≤ i → i < j → l[i]? ≠ some 59) (hkj : k + 1 ≤ j) : Lib.cut (l.drop (k + 1)) [59] = ((l.drop (k + 1)).take (j - (k + 1)), l.drop (j + 1), true) := by
  have e : l.drop (k + 1) = (l.drop (k + 1)).take (j - (k + 1)) ++ 59 :: l.drop (j + 1) := by
    rw [← drop_at hj]
    conv => lhs; rw [← List.take_append_drop (j - (k + 1)) (l.drop (k + 1))]
    rw [List.drop_drop, show k + 1 + (j - (k + 1)) = j by omega]
  have hn : 59 ∉ (l.drop (k + 1)).take (j - (k + 1)) := by
    intro h
    obtain ⟨i, hi⟩ := List.getElem?_of_mem h
    rw [List.getElem?_take] at hi
    split at hi
    · rw [List.getElem?_drop] at hi
      exact hall (k + 1 + i) (by omega) (by omega) hi
    · cases hi
  conv => lhs; rw [e]
  exact cut_yes _ _ 59 hn
theorem far_end {l : List UInt8} {k j : Nat} (hall : ∀ i, k + 1 ≤ i → i < j → l[i]? ≠ some 59) (h : l.length ≤ j ∨ k + 12 ≤ j) : signAt (l.drop (k + 1)) = none := by
  refine signAt_far fun i hi => ?_
  rw [List.getElem?_drop]
  by_cases q : k + 1 + i < j
  · exact hall _ (by omega) q
  · rcases h with h | h
    · rw [List.getElem?_eq_none (by omega)]
      simp
    · omega
theorem put_one (r : Int) : putR [r] = Lib.encodeRune r := by simp [putR]

set_option maxHeartbeats 4000000 in
theorem refRead7_any (s : ByteArray) (w : World) (hS : s.size ≤ 100000) : Calls Try.prog 41 #[.string s] w (RetS w (readL (bl s))) := by
  have hbl := bl_len s
  obtain ⟨tot, htot⟩ : ∃ tot, readL (bl s) = tot := ⟨_, rfl⟩
  have HT : Hid (tot = [] ++ readL ((bl s).drop 0)) := Lib.hid (by rw [← htot]; rfl)
  rw [htot]
  clear htot
  go_enter Try.func41, Try.ntmps41
  go_wp2_with fail
  go_loopw [3, 4] (fun v i wr => ∃ (k m : Nat) (A2 : Option Addr) (c2 : Nat) (acc : List UInt8), v = .slice A2 m c2 ∧ i = .int .i64 (k : Int) ∧ k ≤ s.size ∧ m ≤ 4 * k ∧ Ow wr w.heap.size A2 m c2 acc ∧ Below w.heap.size w wr ∧ Hid (tot = acc ++ readL ((bl s).drop k))) (fun _ i _ => s.size - (intOf i).toNat)
  case atStart => exact ⟨0, 0, none, 0, [], rfl, rfl, by omega, by omega, Ow.nil, Below.refl _ _, HT⟩
  case round =>
    obtain ⟨k, m, A2, c2, acc, rfl, rfl, hk, hm, hO, hbw, HR⟩ := hrel
    have hbs := hbw.size
    by_cases hp : k < s.size
    · have hu := bl_get s k hp
      obtain ⟨u, hu0⟩ : ∃ u, s[k] = u := ⟨_, rfl⟩
      rw [hu0] at hu
      rw [drop_at hu] at HR
      by_cases q38 : u.toNat = 38
      · have d38 : ((u.toNat : Int) == 38) = true := by simp; omega
        have hu38 : u = 38 := esc_at q38
        rw [hu38] at HR
        have HU38 := Lib.hid hu38
        clear q38 hu38 hu
        go_wp2_with fail
        go_loop [5] (fun x => ∃ j : Nat, x = .int .i64 (j : Int) ∧ k + 1 ≤ j ∧ j ≤ s.size ∧ j ≤ k + 12 ∧ Hid (∀ i, k + 1 ≤ i → i < j → (bl s)[i]? ≠ some 59)) (fun x => s.size - (intOf x).toNat)
        case atStart => exact ⟨k + 1, by go_num, by omega, by omega, by omega, Lib.hid (fun i h1 h2 => by omega)⟩
        case round =>
          obtain ⟨j, rfl, hj1, hj2, hj3, HA⟩ := hrel
          by_cases hjs : j < s.size
          · have hv := bl_get s j hjs
            obtain ⟨v, hv0⟩ : ∃ v, s[j] = v := ⟨_, rfl⟩
            rw [hv0] at hv
            by_cases q59 : v.toNat = 59
            · have e59 : ((v.toNat : Int) == 59) = true := by simp; omega
              have e59' : ((v.toNat : Int) != 59) = false := by simp; omega
              have hv59 : v = 59 := esc_at q59
              rw [hv59] at hv
              have hcut := semi_cut hv HA.out hj1
              have HSG := Lib.hid (fun W => refSign_any (s.extract (k + 1) j) W (by rw [← bl_len, bl_mid, List.length_take, List.length_drop]; omega))
              rw [bl_mid] at HSG
              have hnl : (((bl s).drop (k + 1)).take (j - (k + 1))).length = j - (k + 1) := by rw [List.length_take, List.length_drop]; omega
              clear q59 hv59 hv
              cases hs : signL (((bl s).drop (k + 1)).take (j - (k + 1))) with
              | none =>
                rw [readL_amp (signAt_none (by rw [hcut]; exact hs))] at HR
                rw [hs] at HSG
                have HN : Hid (tot = (acc ++ [u]) ++ readL ((bl s).drop (k + 1))) := Lib.hid (by rw [HR.out, HU38.out]; simp)
                clear hs hcut hnl
                go_wp2_with fail
                (with_reducible refine (HSG.out _).mono ?_)
                rintro e w1 ⟨rfl, rfl⟩
                simp only [signV]
                have hO1 := hO.below (bel_alloc (Below.refl _ _) (.cells #[.int .u8 (u.toNat : Int)] 5))
                have qq := Bs.const wr [u] #[.int .u8 (u.toNat : Int)] 5 (0, 0) 1 rfl rfl
                go_wp2_with (at_builtin; refine wpList_appBg _ iBytesU rfl rfl rfl hO1 rfl qq (m + 1) (acc ++ [u]) rfl rfl (by omega) (by simp; omega) ?_; intro A' c' w' ho hb _ _)
                go_roundw
                case rel => exact ⟨k + 1, m + 1, A', c', acc ++ [u], rfl, by go_num, by omega, by omega, ho, (hbw.alloc hbs _).trans hb, HN⟩
                case measure => simp [intOf]; omega
              | some c =>
                have hcb := signL_bd _ _ hs
                have hel := enc_len c
                have hrd := readL_sign (signAt_some (t := (bl s).drop (k + 1)) (by rw [hcut]) (by rw [hcut]; exact hs))
                rw [hcut] at hrd
                simp only at hrd
                rw [hnl, List.drop_drop, show k + 1 + (j - (k + 1) + 1) = j + 1 by omega] at hrd
                rw [hrd] at HR
                rw [hs] at HSG
                have HN : Hid (tot = (acc ++ Lib.encodeRune c) ++ readL ((bl s).drop (j + 1))) := Lib.hid (by rw [HR.out]; simp)
                have HPT := Lib.hid (fun W (h : Rn W (some ⟨wr.heap.size, 0, none⟩) 1 [c]) => refPut5_any (some ⟨wr.heap.size, 0, none⟩) 1 1 [c] W h (by intro z hz; simp at hz; omega) (by omega))
                rw [put_one] at HPT
                clear hs hcut hnl hrd HR
                generalize Lib.encodeRune c = ec at *
                have hrn := Rn.const wr [c] #[.int .i32 c] 21 (0, 0) 1 rfl rfl
                go_wp2_with fail
                (with_reducible refine (HSG.out _).mono ?_)
                rintro e w1 ⟨rfl, rfl⟩
                simp only [signV]
                go_wp2_with fail
                (with_reducible refine (HPT.out _ hrn).mono ?_)
                rintro e w1 ⟨rfl, hb1⟩
                have hb1' := bel_step (bel_alloc (Below.refl wr.heap.size wr) _) hb1
                have B1 := bel_step hbw hb1'
                have hO1 := hO.below hb1'
                have hs1 := B1.size
                clear hb1 hb1' hrn
                go_wp2_with (at_builtin; refine wpList_appS _ iBytesU Try.underlying9 rfl rfl rfl hO1 rfl (m + ec.length) (acc ++ ec) rfl rfl (by omega) hs1 ?_; intro A' c' w' ho hb _)
                go_roundw
                case rel => exact ⟨j + 1, m + ec.length, A', c', acc ++ ec, rfl, by go_num, by omega, by omega, ho, B1.trans hb, HN⟩
                case measure => simp [intOf]; omega
            · have e59 : ((v.toNat : Int) == 59) = false := by simp; omega
              have e59' : ((v.toNat : Int) != 59) = true := by simp; omega
              have hv59 : (bl s)[j]? ≠ some 59 := by
                rw [hv]
                intro e
                injection e with e
                exact q59 (by rw [e]; rfl)
              have HNX : Hid (∀ i, k + 1 ≤ i → i < j + 1 → (bl s)[i]? ≠ some 59) := Lib.hid (fun i h1 h2 => by
                by_cases e : i = j
                · subst e; exact hv59
                · exact HA.out i h1 (by omega))
              clear q59 hv hv59
              by_cases h12 : j < k + 12
              · have d12 : decide ((j : Int) - (k : Int) < 12) = true := by simp; omega
                go_wp2_with fail
                go_round
                case rel => exact ⟨j + 1, by go_num, by omega, by omega, by omega, HNX⟩
                case measure => simp [intOf]; omega
              · have d12 : decide ((j : Int) - (k : Int) < 12) = false := by simp; omega
                rw [readL_amp (far_end HA.out (.inr (by omega)))] at HR
                have HN : Hid (tot = (acc ++ [u]) ++ readL ((bl s).drop (k + 1))) := Lib.hid (by rw [HR.out, HU38.out]; simp)
                have hO1 := hO.below (bel_alloc (Below.refl _ _) (.cells #[.int .u8 (u.toNat : Int)] 5))
                have qq := Bs.const wr [u] #[.int .u8 (u.toNat : Int)] 5 (0, 0) 1 rfl rfl
                go_wp2_with (at_builtin; refine wpList_appBg _ iBytesU rfl rfl rfl hO1 rfl qq (m + 1) (acc ++ [u]) rfl rfl (by omega) (by simp; omega) ?_; intro A' c' w' ho hb _ _)
                go_roundw
                case rel => exact ⟨k + 1, m + 1, A', c', acc ++ [u], rfl, by go_num, by omega, by omega, ho, (hbw.alloc hbs _).trans hb, HN⟩
                case measure => simp [intOf]; omega
          · rw [readL_amp (far_end HA.out (.inl (by omega)))] at HR
            have HN : Hid (tot = (acc ++ [u]) ++ readL ((bl s).drop (k + 1))) := Lib.hid (by rw [HR.out, HU38.out]; simp)
            have hO1 := hO.below (bel_alloc (Below.refl _ _) (.cells #[.int .u8 (u.toNat : Int)] 5))
            have qq := Bs.const wr [u] #[.int .u8 (u.toNat : Int)] 5 (0, 0) 1 rfl rfl
            go_wp2_with (at_builtin; refine wpList_appBg _ iBytesU rfl rfl rfl hO1 rfl qq (m + 1) (acc ++ [u]) rfl rfl (by omega) (by simp; omega) ?_; intro A' c' w' ho hb _ _)
            go_roundw
            case rel => exact ⟨k + 1, m + 1, A', c', acc ++ [u], rfl, by go_num, by omega, by omega, ho, (hbw.alloc hbs _).trans hb, HN⟩
            case measure => simp [intOf]; omega
      · have d38 : ((u.toNat : Int) == 38) = false := by simp; omega
        have hu38 : u ≠ 38 := fun e => q38 (by rw [e]; rfl)
        rw [readL_plain u _ hu38] at HR
        have HN : Hid (tot = (acc ++ [u]) ++ readL ((bl s).drop (k + 1))) := Lib.hid (by rw [HR.out]; simp)
        clear q38 hu38 hu
        go_wp2_with fail
        go_loop [5] (fun x => x = .int .i64 ((k + 1 : Nat) : Int)) (fun _ => 0)
        case atStart => go_num
        case round =>
          subst hrel
          have hO1 := hO.below (bel_alloc (Below.refl _ _) (.cells #[.int .u8 (u.toNat : Int)] 5))
          have qq := Bs.const wr [u] #[.int .u8 (u.toNat : Int)] 5 (0, 0) 1 rfl rfl
          go_wp2_with (at_builtin; refine wpList_appBg _ iBytesU rfl rfl rfl hO1 rfl qq (m + 1) (acc ++ [u]) rfl rfl (by omega) (by simp; omega) ?_; intro A' c' w' ho hb _ _)
          go_roundw
          case rel => exact ⟨k + 1, m + 1, A', c', acc ++ [u], rfl, by go_num, by omega, by omega, ho, (hbw.alloc hbs _).trans hb, HN⟩
          case measure => simp [intOf]; omega
    · have HE : Hid (tot = acc) := Lib.hid (by rw [HR.out, List.drop_of_length_le (by omega), readL_nil]; simp)
      have hcv := hO.bs.str (P := Try.prog) 49 9 5 c2 Try.underlying49 Try.underlying5 Try.underlying9
      go_wp2_with fail
      go_ret
      rw [HE.out]
      exact ⟨rfl, hbw⟩
end Go.Proofs.Ytnagckdaleafdaa
