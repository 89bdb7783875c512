/-
  The document's Large.
-/
import Derived.Test.YtnagckdaleafdaaXnD
namespace Go.Proofs.Ytnagckdaleafdaa
open Go.RowKit Go.Nst
set_option maxRecDepth 100000
set_option linter.unusedVariables false
set_option linter.unusedSimpArgs false

theorem smL_of {l : List Xtk} {n : Nat} (hl : l.length = n) (hn : n ≤ 300) (h : ∀ t ∈ l.take n, SmT t) : SmL l := by
  refine ⟨by omega, fun t ht => h t ?_⟩
  rwa [List.take_of_length_le (by omega)]
set_option maxHeartbeats 8000000 in
theorem refLarge8_any (l : List Xtk) (A : Option Addr) (n c : Nat) (w : World) (S : Nat → Prop) (hk : XtA w S A n l) (hc : n ≤ c ∧ c ≤ 9223372036854775807) :
    Calls Try.prog 11 #[.slice A n c] w fun e w' => w' = w ∧ ∃ b, e = .returned (.bool b) ∧ (b = false → SmL l) := by
  have HLN := Lib.hid hk.len
  have hc1 := hc.1
  have hc2 := hc.2
  clear hc
  by_cases hbig : 300 < n
  · have hbig' : decide (300 < (n : Int)) = true := by simp; omega
    go_enter Try.func11, Try.ntmps11
    go_wp2_with fail
    go_ret
    exact ⟨rfl, _, rfl, by simp⟩
  have hbig' : decide (300 < (n : Int)) = false := by simp; omega
  go_enter Try.func11, Try.ntmps11
  go_wp2_with fail
  go_loopw [3, 4] (fun v i wr => ∃ (k : Nat) (z : Int), k ≤ n ∧ i = .int .i64 k ∧ v = .int .i64 z ∧ 0 ≤ z ∧ z ≤ k * 100000 ∧ Hid (∀ t ∈ l.take k, SmT t) ∧ wr = w) (fun _ i _ => n - (intOf i).toNat)
  case atStart => exact ⟨0, 0, Nat.zero_le _, rfl, rfl, by omega, by omega, Lib.hid (by simp), rfl⟩
  case round =>
    obtain ⟨k, z, hkl, rfl, rfl, hz0, hz1, HSM, rfl⟩ := hrel
    by_cases hlt : k < n
    · obtain ⟨t, B, d, b, off, hg, rfl, hS, hbs, hP, k1, k2, k3, k4, k5, HA, f0, f1, f2, f3⟩ := xt_at hk hlt
      obtain ⟨kd, nm, ats, tx⟩ := t
      have hlt' : decide (k < n) = true := by simpa using hlt
      have hki : (k : Int) < (n : Int) := by omega
      simp only at k1 k2 k3 k4 k5 f0 f1 f2 f3 HA
      have HAA := Lib.hid HA
      clear hP HA
      by_cases h1 : 60 < ats.length
      · have d1 : decide (60 < (ats.length : Int)) = true := by simp; omega
        go_wp2_with fail
        go_ret
        exact ⟨rfl, _, rfl, by simp⟩
      have d1 : decide (60 < (ats.length : Int)) = false := by simp; omega
      by_cases h2 : 3000 < tx.length
      · have d2 : decide (3000 < (tx.length : Int)) = true := by simp; omega
        go_wp2_with fail
        go_ret
        exact ⟨rfl, _, rfl, by simp⟩
      have d2 : decide (3000 < (tx.length : Int)) = false := by simp; omega
      by_cases h3 : 300 < nm.length
      · have d3 : decide (300 < (nm.length : Int)) = true := by simp; omega
        go_wp2_with fail
        go_ret
        exact ⟨rfl, _, rfl, by simp⟩
      have d3 : decide (300 < (nm.length : Int)) = false := by simp; omega
      have w1 : IntKind.i64.wrap (z + (tx.length : Int)) = z + (tx.length : Int) := IntWalk.i64_in _ (by omega)
      go_wp2_with fail
      obtain ⟨wo, rfl⟩ : ∃ wo : World, wo = wr := ⟨_, rfl⟩
      go_loopw [3, 5] (fun v q wv => ∃ (i : Nat) (y : Int), q = .int .i64 (i : Int) ∧ i ≤ ats.length ∧ v = .int .i64 y ∧ 0 ≤ y ∧ y ≤ z + 3000 + i * 1000 ∧ Hid (∀ a ∈ ats.take i, a.nm.length ≤ 300 ∧ a.vl.length ≤ 1000) ∧ wv = wo) (fun _ q _ => ats.length - (intOf q).toNat)
      case atStart => exact ⟨0, _, rfl, Nat.zero_le _, rfl, by omega, by omega, Lib.hid (by simp), rfl⟩
      case round =>
        obtain ⟨i, y, rfl, hi, rfl, hy0, hy1, HAT, rfl⟩ := hrel
        by_cases hlt2 : i < ats.length
        · obtain ⟨a, bb, off2, hg2, rfl, hbB, hbs2, g1, g2, y0, y1⟩ := xa_at HAA.out hlt2
          have hlt2' : decide (i < ats.length) = true := by simpa using hlt2
          have hii : (i : Int) < (ats.length : Int) := by omega
          by_cases h4 : 1000 < a.vl.length
          · have d4 : decide (1000 < (a.vl.length : Int)) = true := by simp; omega
            go_wp2_with fail
            go_ret
            exact ⟨rfl, _, rfl, by simp⟩
          have d4 : decide (1000 < (a.vl.length : Int)) = false := by simp; omega
          by_cases h5 : 300 < a.nm.length
          · have d5 : decide (300 < (a.nm.length : Int)) = true := by simp; omega
            go_wp2_with fail
            go_ret
            exact ⟨rfl, _, rfl, by simp⟩
          have d5 : decide (300 < (a.nm.length : Int)) = false := by simp; omega
          have HAT2 : Hid (∀ a ∈ ats.take (i + 1), a.nm.length ≤ 300 ∧ a.vl.length ≤ 1000) := Lib.hid (by
            rw [List.take_add_one, hg2.out]
            intro x hx
            rcases List.mem_append.1 hx with hx | hx
            · exact HAT.out x hx
            · have : x = a := by simpa using hx
              subst this
              omega)
          have w2 : IntKind.i64.wrap (y + (a.vl.length : Int)) = y + (a.vl.length : Int) := IntWalk.i64_in _ (by omega)
          clear HAT
          go_wp2_with fail
          go_roundw
          case rel => exact ⟨i + 1, _, by go_num, by omega, rfl, by omega, by omega, HAT2, by first | trivial | rfl⟩
          case measure => simp [intOf]; omega
        · obtain rfl : i = ats.length := by omega
          have hlt2' : decide (ats.length < ats.length) = false := by simp
          have HSM2 : Hid (∀ t ∈ l.take (k + 1), SmT t) := Lib.hid (by
            rw [List.take_add_one, hg.out]
            intro x hx
            rcases List.mem_append.1 hx with hx | hx
            · exact HSM.out x hx
            · have : x = ⟨kd, nm, ats, tx⟩ := by simpa using hx
              subst this
              have h9 := HAT.out
              rw [List.take_length] at h9
              exact ⟨by simp only; omega, by simp only; omega, by simp only; omega, h9⟩)
          clear HSM HAT
          go_wp2_with fail
          go_roundw
          case rel => exact ⟨k + 1, _, by omega, by go_num, rfl, by omega, by omega, HSM2, by first | trivial | rfl⟩
          case measure => simp [intOf]; omega
    · obtain rfl : k = n := by omega
      have hlt' : decide (k < k) = false := by simp
      have HSL := Lib.hid (smL_of HLN.out (by omega) HSM.out)
      clear HSM
      go_wp2_with fail
      go_ret
      exact ⟨rfl, _, rfl, fun _ => HSL.out⟩
end Go.Proofs.Ytnagckdaleafdaa
