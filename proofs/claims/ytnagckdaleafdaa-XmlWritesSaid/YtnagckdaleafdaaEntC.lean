/-
  entity.Write, Plain; the reference's Write.
-/
import Derived.Test.YtnagckdaleafdaaEntB
namespace Go.Proofs.Ytnagckdaleafdaa
open Go.RowKit Go.Nst
set_option maxRecDepth 100000
set_option linter.unusedVariables false
set_option linter.unusedSimpArgs false

theorem write_round {l : List UInt8} {k : Nat} {u : UInt8} (hu : l[k]? = some u) : writeL (l.take (k + 1)) = writeL (l.take k) ++ escC u := by
  rw [List.take_add_one, hu]
  simp [writeL]
theorem esc_at {u : UInt8} {n : Nat} (h : u.toNat = n) : u = UInt8.ofNat n := by
  rw [← h]
  simp
theorem esc_not {u : UInt8} (h1 : ¬ u.toNat = 38) (h2 : ¬ u.toNat = 60) (h3 : ¬ u.toNat = 62) (h4 : ¬ u.toNat = 34) (h5 : ¬ u.toNat = 39) : escC u = [u] := by
  refine escC_plain u ?_
  simp only [specC, Bool.or_eq_false_iff, beq_eq_false_iff_ne]
  refine ⟨⟨⟨⟨?_, ?_⟩, ?_⟩, ?_⟩, ?_⟩ <;> (intro e; subst e; first | exact h1 rfl | exact h2 rfl | exact h3 rfl | exact h4 rfl | exact h5 rfl)

set_option maxHeartbeats 4000000 in
theorem write7_any (s : ByteArray) (w : World) (hS : s.size ≤ 1000000) : Calls Try.prog 48 #[.string s] w (RetS w (writeL (bl s))) := by
  have hbl := bl_len s
  have HF : Hid (writeL ((bl s).take s.size) = writeL (bl s)) := Lib.hid (by rw [List.take_of_length_le (by omega)])
  go_enter Try.func48, Try.ntmps48
  go_wp2_with fail
  go_loopw [7] (fun i wr => ∃ k : Nat, i = .int .i64 (k : Int) ∧ k ≤ s.size ∧ Bd wr w.heap.size w.heap.size (writeL ((bl s).take k)) ∧ Below w.heap.size w wr) (fun i _ => s.size - (intOf i).toNat)
  case atStart => exact ⟨0, rfl, by omega, Bd.fresh w, bel_alloc (Below.refl _ _) _⟩
  case round =>
    obtain ⟨k, rfl, hk, hbd, hbw⟩ := hrel
    have hbs := hbw.size
    by_cases hp : k < s.size
    · have hu := bl_get s k hp
      obtain ⟨u, hu0⟩ : ∃ u, s[k] = u := ⟨_, rfl⟩
      rw [hu0] at hu
      have HR := Lib.hid (write_round hu)
      have hwl := (writeL_len ((bl s).take k)).2
      have hkl : ((bl s).take k).length ≤ k := by simp; omega
      clear hu
      generalize writeL ((bl s).take k) = acc at *
      by_cases q38 : u.toNat = 38
      · obtain rfl : u = 38 := esc_at q38
        have HC := Lib.hid (writeString_k w.heap.size w.heap.size acc [38, 97, 109, 112, 59] wr hbd (by simp; omega) hbs)
        rw [show escC 38 = [38, 97, 109, 112, 59] from rfl] at HR
        clear q38
        go_wp2_with fail
        (with_reducible refine (HC.out).mono ?_)
        rintro e w1 ⟨rfl, hbd1, hb1, _⟩
        rw [← HR.out] at hbd1
        go_wp2_with fail
        go_roundw
        case rel => exact ⟨k + 1, by go_num, by omega, hbd1, hbw.trans hb1⟩
        case measure => simp [intOf]; omega
      have d38 : ((u.toNat : Int) == 38) = false := by simp; omega
      by_cases q60 : u.toNat = 60
      · obtain rfl : u = 60 := esc_at q60
        have HC := Lib.hid (writeString_k w.heap.size w.heap.size acc [38, 108, 116, 59] wr hbd (by simp; omega) hbs)
        rw [show escC 60 = [38, 108, 116, 59] from rfl] at HR
        clear q60
        go_wp2_with fail
        (with_reducible refine (HC.out).mono ?_)
        rintro e w1 ⟨rfl, hbd1, hb1, _⟩
        rw [← HR.out] at hbd1
        go_wp2_with fail
        go_roundw
        case rel => exact ⟨k + 1, by go_num, by omega, hbd1, hbw.trans hb1⟩
        case measure => simp [intOf]; omega
      have d60 : ((u.toNat : Int) == 60) = false := by simp; omega
      by_cases q62 : u.toNat = 62
      · obtain rfl : u = 62 := esc_at q62
        have HC := Lib.hid (writeString_k w.heap.size w.heap.size acc [38, 103, 116, 59] wr hbd (by simp; omega) hbs)
        rw [show escC 62 = [38, 103, 116, 59] from rfl] at HR
        clear q62
        go_wp2_with fail
        (with_reducible refine (HC.out).mono ?_)
        rintro e w1 ⟨rfl, hbd1, hb1, _⟩
        rw [← HR.out] at hbd1
        go_wp2_with fail
        go_roundw
        case rel => exact ⟨k + 1, by go_num, by omega, hbd1, hbw.trans hb1⟩
        case measure => simp [intOf]; omega
      have d62 : ((u.toNat : Int) == 62) = false := by simp; omega
      by_cases q34 : u.toNat = 34
      · obtain rfl : u = 34 := esc_at q34
        have HC := Lib.hid (writeString_k w.heap.size w.heap.size acc [38, 113, 117, 111, 116, 59] wr hbd (by simp; omega) hbs)
        rw [show escC 34 = [38, 113, 117, 111, 116, 59] from rfl] at HR
        clear q34
        go_wp2_with fail
        (with_reducible refine (HC.out).mono ?_)
        rintro e w1 ⟨rfl, hbd1, hb1, _⟩
        rw [← HR.out] at hbd1
        go_wp2_with fail
        go_roundw
        case rel => exact ⟨k + 1, by go_num, by omega, hbd1, hbw.trans hb1⟩
        case measure => simp [intOf]; omega
      have d34 : ((u.toNat : Int) == 34) = false := by simp; omega
      by_cases q39 : u.toNat = 39
      · obtain rfl : u = 39 := esc_at q39
        have HC := Lib.hid (writeString_k w.heap.size w.heap.size acc [38, 97, 112, 111, 115, 59] wr hbd (by simp; omega) hbs)
        rw [show escC 39 = [38, 97, 112, 111, 115, 59] from rfl] at HR
        clear q39
        go_wp2_with fail
        (with_reducible refine (HC.out).mono ?_)
        rintro e w1 ⟨rfl, hbd1, hb1, _⟩
        rw [← HR.out] at hbd1
        go_wp2_with fail
        go_roundw
        case rel => exact ⟨k + 1, by go_num, by omega, hbd1, hbw.trans hb1⟩
        case measure => simp [intOf]; omega
      have d39 : ((u.toNat : Int) == 39) = false := by simp; omega
      rw [esc_not q38 q60 q62 q34 q39] at HR
      clear q38 q60 q62 q34 q39
      have HC := Lib.hid (writeByte_k w.heap.size w.heap.size acc u wr hbd (by omega) hbs)
      go_wp2_with fail
      (with_reducible refine (HC.out).mono ?_)
      rintro e w1 ⟨rfl, hbd1, hb1, _⟩
      rw [← HR.out] at hbd1
      go_wp2_with fail
      go_roundw
      case rel => exact ⟨k + 1, by go_num, by omega, hbd1, hbw.trans hb1⟩
      case measure => simp [intOf]; omega
    · obtain rfl : k = s.size := by omega
      rw [HF.out] at hbd
      have HC := Lib.hid (bString_k w.heap.size w.heap.size (writeL (bl s)) wr hbd hbs)
      go_wp2_with fail
      (with_reducible refine (HC.out).mono ?_)
      rintro e w1 ⟨rfl, _, hb1, _⟩
      go_wp2_with fail
      go_ret
      exact ⟨rfl, hbw.trans hb1⟩

set_option maxHeartbeats 4000000 in
theorem refWrite7_any (s : ByteArray) (w : World) (hS : s.size ≤ 1000000) : Calls Try.prog 26 #[.string s] w fun e w' => e = .returned (.string ⟨(writeL (bl s)).toArray⟩) ∧ w = w' := by
  have hbl := bl_len s
  have HF : Hid (writeL ((bl s).take s.size) = writeL (bl s)) := Lib.hid (by rw [List.take_of_length_le (by omega)])
  go_enter Try.func26, Try.ntmps26
  go_wp2_with fail
  go_loop [3, 4] (fun v i => ∃ (k : Nat) (x : ByteArray), i = .int .i64 (k : Int) ∧ v = .string x ∧ k ≤ s.size ∧ x.size ≤ 6 * k ∧ Hid (bl x = writeL ((bl s).take k))) (fun _ i => s.size - (intOf i).toNat)
  case atStart => exact ⟨0, ⟨#[]⟩, rfl, rfl, by omega, by simp [ByteArray.size], Lib.hid rfl⟩
  case round =>
    obtain ⟨k, x, rfl, rfl, hk, hxs, HX⟩ := hrel
    by_cases hp : k < s.size
    · have hu := bl_get s k hp
      obtain ⟨u, hu0⟩ : ∃ u, s[k] = u := ⟨_, rfl⟩
      rw [hu0] at hu
      have HR := Lib.hid (write_round hu)
      rw [← HX.out] at HR
      have HU := Lib.hid hu
      clear hu
      by_cases q38 : u.toNat = 38
      · obtain rfl : u = 38 := esc_at q38
        have HN : Hid (bl (x ++ ⟨#[38, 97, 109, 112, 59]⟩) = writeL ((bl s).take (k + 1))) := Lib.hid (by rw [HR.out, bl_append]; rfl)
        have hsz := size_append x ⟨#[38, 97, 109, 112, 59]⟩
        have hsz2 : (ByteArray.mk #[38, 97, 109, 112, 59]).size = 5 := rfl
        rw [hsz2] at hsz
        have HSZ : Hid ((x ++ ⟨#[38, 97, 109, 112, 59]⟩ : ByteArray).size ≤ 6 * (k + 1)) := Lib.hid (by omega)
        clear q38 hsz hsz2
        go_wp2_with fail
        go_round
        case rel => exact ⟨k + 1, _, by go_num, rfl, by omega, HSZ.out, HN⟩
        case measure => simp [intOf]; omega
      have d38 : ((u.toNat : Int) == 38) = false := by simp; omega
      by_cases q60 : u.toNat = 60
      · obtain rfl : u = 60 := esc_at q60
        have HN : Hid (bl (x ++ ⟨#[38, 108, 116, 59]⟩) = writeL ((bl s).take (k + 1))) := Lib.hid (by rw [HR.out, bl_append]; rfl)
        have hsz := size_append x ⟨#[38, 108, 116, 59]⟩
        have hsz2 : (ByteArray.mk #[38, 108, 116, 59]).size = 4 := rfl
        rw [hsz2] at hsz
        have HSZ : Hid ((x ++ ⟨#[38, 108, 116, 59]⟩ : ByteArray).size ≤ 6 * (k + 1)) := Lib.hid (by omega)
        clear q60 hsz hsz2
        go_wp2_with fail
        go_round
        case rel => exact ⟨k + 1, _, by go_num, rfl, by omega, HSZ.out, HN⟩
        case measure => simp [intOf]; omega
      have d60 : ((u.toNat : Int) == 60) = false := by simp; omega
      by_cases q62 : u.toNat = 62
      · obtain rfl : u = 62 := esc_at q62
        have HN : Hid (bl (x ++ ⟨#[38, 103, 116, 59]⟩) = writeL ((bl s).take (k + 1))) := Lib.hid (by rw [HR.out, bl_append]; rfl)
        have hsz := size_append x ⟨#[38, 103, 116, 59]⟩
        have hsz2 : (ByteArray.mk #[38, 103, 116, 59]).size = 4 := rfl
        rw [hsz2] at hsz
        have HSZ : Hid ((x ++ ⟨#[38, 103, 116, 59]⟩ : ByteArray).size ≤ 6 * (k + 1)) := Lib.hid (by omega)
        clear q62 hsz hsz2
        go_wp2_with fail
        go_round
        case rel => exact ⟨k + 1, _, by go_num, rfl, by omega, HSZ.out, HN⟩
        case measure => simp [intOf]; omega
      have d62 : ((u.toNat : Int) == 62) = false := by simp; omega
      by_cases q34 : u.toNat = 34
      · obtain rfl : u = 34 := esc_at q34
        have HN : Hid (bl (x ++ ⟨#[38, 113, 117, 111, 116, 59]⟩) = writeL ((bl s).take (k + 1))) := Lib.hid (by rw [HR.out, bl_append]; rfl)
        have hsz := size_append x ⟨#[38, 113, 117, 111, 116, 59]⟩
        have hsz2 : (ByteArray.mk #[38, 113, 117, 111, 116, 59]).size = 6 := rfl
        rw [hsz2] at hsz
        have HSZ : Hid ((x ++ ⟨#[38, 113, 117, 111, 116, 59]⟩ : ByteArray).size ≤ 6 * (k + 1)) := Lib.hid (by omega)
        clear q34 hsz hsz2
        go_wp2_with fail
        go_round
        case rel => exact ⟨k + 1, _, by go_num, rfl, by omega, HSZ.out, HN⟩
        case measure => simp [intOf]; omega
      have d34 : ((u.toNat : Int) == 34) = false := by simp; omega
      by_cases q39 : u.toNat = 39
      · obtain rfl : u = 39 := esc_at q39
        have HN : Hid (bl (x ++ ⟨#[38, 97, 112, 111, 115, 59]⟩) = writeL ((bl s).take (k + 1))) := Lib.hid (by rw [HR.out, bl_append]; rfl)
        have hsz := size_append x ⟨#[38, 97, 112, 111, 115, 59]⟩
        have hsz2 : (ByteArray.mk #[38, 97, 112, 111, 115, 59]).size = 6 := rfl
        rw [hsz2] at hsz
        have HSZ : Hid ((x ++ ⟨#[38, 97, 112, 111, 115, 59]⟩ : ByteArray).size ≤ 6 * (k + 1)) := Lib.hid (by omega)
        clear q39 hsz hsz2
        go_wp2_with fail
        go_round
        case rel => exact ⟨k + 1, _, by go_num, rfl, by omega, HSZ.out, HN⟩
        case measure => simp [intOf]; omega
      have d39 : ((u.toNat : Int) == 39) = false := by simp; omega
      rw [esc_not q38 q60 q62 q34 q39] at HR
      clear q38 q60 q62 q34 q39
      have HN : Hid (bl (x ++ s.extract k (k + 1)) = writeL ((bl s).take (k + 1))) := Lib.hid (by rw [HR.out, bl_append, bl_mid, show k + 1 - k = 1 by omega, List.drop_eq_getElem_cons (List.getElem?_eq_some_iff.1 HU.out).1, (List.getElem?_eq_some_iff.1 HU.out).2]; rfl)
      have hsz := size_append x (s.extract k (k + 1))
      have HSZ : Hid ((x ++ s.extract k (k + 1) : ByteArray).size ≤ 6 * (k + 1)) := Lib.hid (by rw [hsz, ← bl_len (s.extract k (k + 1)), bl_mid, List.length_take]; omega)
      clear hsz
      go_wp2_with fail
      go_round
      case rel => exact ⟨k + 1, _, by go_num, rfl, by omega, HSZ.out, HN⟩
      case measure => simp [intOf]; omega
    · obtain rfl : k = s.size := by omega
      have HE : Hid (x = ⟨(writeL (bl s)).toArray⟩) := Lib.hid (by rw [← bl_mk x, HX.out, HF.out])
      go_wp2_with fail
      go_ret
      refine ⟨?_, rfl⟩
      rw [← HE.out]
      rfl
end Go.Proofs.Ytnagckdaleafdaa
