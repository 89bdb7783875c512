/-
  The document's dates: Of, digits, num, told, zone.
  The document's dates: Show, Web (printed by gen_dtg.py).
  The document's dates: split, index, named.
-/
import Derived.Test.YtjmmgekildlckaaDtM
import Derived.Test.YtjmmgekildlckaaTak
import Derived.Test.YtjmmgekildlckaaStl
section
namespace Go.Proofs.Ytjmmgekildlckaa
open Go.RowKit Go.Nst
set_option maxRecDepth 100000
set_option linter.unusedVariables false
set_option linter.unusedSimpArgs false

theorem of_from {n y : Int} {k : Nat} (h : mayM n = true) (h0 : 1 ≤ y) (h1 : y ≤ 9999) (hk : 1 ≤ k) (hk2 : k ≤ 12) (ha : 0 ≤ (n + 62135596800) / 86400 - aheadY y - cumN y k) (hb : (n + 62135596800) / 86400 - aheadY y - cumN y k < daysM y k) :
    ofD n = ⟨y, k, (n + 62135596800) / 86400 - aheadY y - cumN y k + 1, (n + 62135596800) % 86400 / 3600, (n + 62135596800) % 86400 / 60 % 60, (n + 62135596800) % 86400 % 60⟩ := by
  have hok : Dt.ok ⟨y, k, (n + 62135596800) / 86400 - aheadY y - cumN y k + 1, (n + 62135596800) % 86400 / 3600, (n + 62135596800) % 86400 / 60 % 60, (n + 62135596800) % 86400 % 60⟩ = true := by
    rw [ok_iff]
    simp only
    omega
  obtain ⟨j, hj, _, _, hd, _⟩ := day_in hok
  simp only at hj hd
  obtain rfl : k = j := by omega
  have hm : Dt.mom ⟨y, k, (n + 62135596800) / 86400 - aheadY y - cumN y k + 1, (n + 62135596800) % 86400 / 3600, (n + 62135596800) % 86400 / 60 % 60, (n + 62135596800) % 86400 % 60⟩ = n := by
    unfold Dt.mom
    simp only
    rw [hd]
    omega
  have := ofD_mom hok
  rw [hm] at this
  exact this
theorem year_from {D : Int} (h0 : 0 ≤ D) (h1 : D ≤ 3652058) : 1 ≤ D / 366 + 1 ∧ D / 366 + 1 ≤ 9999 ∧ aheadY (D / 366 + 1) ≤ D := by
  unfold aheadY
  omega
theorem year_last {D : Int} (h1 : D ≤ 3652058) : D < aheadY 10000 := by
  have : aheadY 10000 = 3652059 := by decide
  omega
theorem ahead_up {y : Int} : aheadY y + 365 ≤ aheadY (y + 1) := by
  rw [ahead_next]
  split <;> omega
theorem ahead_bd2 {y : Int} (h0 : 1 ≤ y) (h1 : y ≤ 100000) : 0 ≤ aheadY y ∧ aheadY y ≤ 40000000 := aheadY_bd h0 h1
theorem ba_app2 (a b : List UInt8) : (ByteArray.mk a.toArray) ++ (ByteArray.mk b.toArray) = ⟨(a ++ b).toArray⟩ := by
  apply ByteArray.ext
  simp [ByteArray.data_append]
theorem dig_char (d : Nat) (h : d < 10) : (ByteArray.mk #[48, 49, 50, 51, 52, 53, 54, 55, 56, 57]).extract d (d + 1) = ⟨#[UInt8.ofNat (48 + d)]⟩ := by
  rcases (by omega : d = 0 ∨ d = 1 ∨ d = 2 ∨ d = 3 ∨ d = 4 ∨ d = 5 ∨ d = 6 ∨ d = 7 ∨ d = 8 ∨ d = 9) with rfl | rfl | rfl | rfl | rfl | rfl | rfl | rfl | rfl | rfl <;> rfl
theorem digL_cons4 : ∀ (z : Nat) (n : Int), digL (z + 1) n = UInt8.ofNat (48 + (n / 10 ^ z % 10).toNat) :: digL z n
  | 0, n => by simp [digL]
  | z + 1, n => by
    have ih := digL_cons4 z (n / 10)
    rw [digL, ih, Int.ediv_ediv_of_nonneg (by omega), show (10 : Int) * 10 ^ z = 10 ^ (z + 1) by rw [Int.pow_succ, Int.mul_comm]]
    rfl
theorem str_at (s : ByteArray) (k : Nat) (w : World) (h : k < s.size) : (Instr.index 9 (.string s) (.int .i64 (k : Int))).run Try.prog w = .ok (.int .u8 (((s[k]'h).toNat : Nat) : Int)) w := by
  rw [run_index_string w 9 s .i64 _ Try.underlying9, dif_pos (by omega)]
  rfl
end Go.Proofs.Ytjmmgekildlckaa
end
section
namespace Go.Proofs.Ytjmmgekildlckaa
open Go.RowKit Go.Nst
set_option maxRecDepth 100000
set_option linter.unusedVariables false
set_option linter.unusedSimpArgs false

end Go.Proofs.Ytjmmgekildlckaa
end
section
namespace Go.Proofs.Ytjmmgekildlckaa
open Go.RowKit Go.Nst
set_option maxRecDepth 100000
set_option linter.unusedVariables false
set_option linter.unusedSimpArgs false

/-- what holds while a text is cut: k bytes are looked at, f are done -/
def SpI (S : ByteArray) (b : UInt8) (k f : Nat) (acc : List (List UInt8)) : Prop :=
  (k ≤ S.size ∧ f ≤ k ∧ splitL b (bl S) = acc ++ splitL b ((bl S).drop f) ∧ ∀ c ∈ ((bl S).drop f).take (k - f), c ≠ b) ∨ (k = S.size + 1 ∧ acc = splitL b (bl S))
theorem spI_same {S : ByteArray} {b : UInt8} {k f : Nat} {acc : List (List UInt8)} (h : SpI S b k f acc) (hk : k < S.size) (hb : S[k]'hk ≠ b) : SpI S b (k + 1) f acc := by
  rcases h with ⟨h1, h2, h3, h4⟩ | ⟨h1, _⟩
  · refine .inl ⟨hk, by omega, h3, ?_⟩
    have e : ((bl S).drop f).take (k + 1 - f) = ((bl S).drop f).take (k - f) ++ [S[k]'hk] := by
      rw [show k + 1 - f = (k - f) + 1 by omega, List.take_add_one, List.getElem?_drop, show f + (k - f) = k by omega, bl_get S k hk]
      rfl
    rw [e]
    intro c hc
    rcases List.mem_append.1 hc with hc | hc
    · exact h4 c hc
    · simp at hc
      rw [hc]
      exact hb
  · omega
theorem spI_cut {S : ByteArray} {b : UInt8} {k f : Nat} {acc : List (List UInt8)} (h : SpI S b k f acc) (hk : k < S.size) (hb : S[k]'hk = b) : SpI S b (k + 1) (k + 1) (acc ++ [((bl S).drop f).take (k - f)]) ∧ f ≤ k := by
  rcases h with ⟨h1, h2, h3, h4⟩ | ⟨h1, _⟩
  · refine ⟨.inl ⟨hk, Nat.le_refl _, ?_, by simp⟩, h2⟩
    have e : (bl S).drop f = ((bl S).drop f).take (k - f) ++ b :: (bl S).drop (k + 1) := by
      have e1 : ((bl S).drop f).drop (k - f) = b :: (bl S).drop (k + 1) := by
        rw [List.drop_drop, show f + (k - f) = k by omega]
        have h2 : k < (bl S).length := by rw [bl_len]; exact hk
        have h9 : (bl S)[k]'h2 = b := by
          have := bl_get S k hk
          rw [List.getElem?_eq_getElem h2] at this
          injection this with this
          try exact this.trans hb
        rw [List.drop_eq_getElem_cons h2, h9]
      rw [← e1, List.take_append_drop]
    have e2 := split_at ((bl S).drop (k + 1)) h4
    rw [← e] at e2
    rw [h3, e2]
    try simp
  · omega
theorem spI_last {S : ByteArray} {b : UInt8} {f : Nat} {acc : List (List UInt8)} (h : SpI S b S.size f acc) : SpI S b (S.size + 1) (S.size + 1) (acc ++ [((bl S).drop f).take (S.size - f)]) ∧ f ≤ S.size := by
  rcases h with ⟨h1, h2, h3, h4⟩ | ⟨h1, _⟩
  · refine ⟨.inr ⟨rfl, ?_⟩, h2⟩
    have e : ((bl S).drop f).take (S.size - f) = (bl S).drop f := List.take_of_length_le (by rw [List.length_drop, bl_len]; omega)
    rw [e] at h4 ⊢
    rw [h3, split_none h4]
  · omega
theorem spI_end {S : ByteArray} {b : UInt8} {k f : Nat} {acc : List (List UInt8)} (h : SpI S b k f acc) (hk : S.size < k) : acc = splitL b (bl S) := by
  rcases h with ⟨h1, _⟩ | ⟨_, h2⟩
  · omega
  · exact h2
theorem str_mid4 (S : ByteArray) (i k : Nat) : S.extract i k = ⟨(((bl S).drop i).take (k - i)).toArray⟩ := by rw [← bl_mid, bl_mk]
theorem ext_size4 (S : ByteArray) (i k : Nat) : (S.extract i k).size ≤ S.size := by
  rw [← bl_len, bl_mid, ← bl_len]
  simp
  omega
theorem bel_drewN {B : Nat} {w w' : World} (h : Below B w w') (n : Nat) : Below B w (w'.drewN n) := ⟨h.os, h.tape, h.output, h.size, h.block⟩
theorem index_here : ∀ {L : List (List UInt8)} {x : List UInt8} {k : Nat}, (∀ y ∈ L.take k, y ≠ x) → L[k]? = some x → indexL L x = k
  | [], x, k, _, h => by simp at h
  | y :: L, x, 0, _, h => by simp at h; simp [indexL, h]
  | y :: L, x, k + 1, h1, h => by
    have h2 : y ≠ x := h1 y (by simp)
    have h3 := index_here (L := L) (x := x) (k := k) (fun z hz => h1 z (by simp [hz])) (by simpa using h)
    unfold indexL
    rw [if_neg h2, h3, if_neg (by omega)]
    omega
def namesZ : List (List UInt8) := [[71, 77, 84], [85, 84], [85, 84, 67], [90], [69, 83, 84], [69, 68, 84], [67, 83, 84], [67, 68, 84], [77, 83, 84], [77, 68, 84], [80, 83, 84], [80, 68, 84]]
def hoursZ : List Int := [0, 0, 0, 0, -5, -4, -6, -5, -7, -6, -8, -7]
theorem zone_names (l : List UInt8) : (indexL namesZ l = -1 ∧ zoneN l = none) ∨ ∃ k : Nat, k < 12 ∧ indexL namesZ l = k ∧ ∃ z : Int, hoursZ[k]? = some z ∧ zoneN l = some (3600 * z) ∧ -100 ≤ z ∧ z ≤ 100 := by
  by_cases h : l ∈ namesZ
  · right
    have hall : ∀ s ∈ namesZ, ∃ k : Fin 12, indexL namesZ s = (k.1 : Int) ∧ zoneN s = some (3600 * hoursZ.getD k.1 0) ∧ -100 ≤ hoursZ.getD k.1 0 ∧ hoursZ.getD k.1 0 ≤ 100 ∧ hoursZ[k.1]? = some (hoursZ.getD k.1 0) := by decide +kernel
    obtain ⟨k, h1, h2, h3, h4, h5⟩ := hall l h
    exact ⟨k.1, k.2, h1, _, h5, h2, h3, h4⟩
  · left
    refine ⟨indexL_not h, ?_⟩
    simp only [namesZ, List.mem_cons, List.not_mem_nil, or_false, not_or] at h
    unfold zoneN
    simp [h]
theorem zoneM_five {S : ByteArray} (h : zoneN (bl S) = none) (h5 : S.size = 5) : zoneM (bl S) = zoneR (S[0]'(by omega)) (bl (S.extract 1 3)) (bl (S.extract 3 5)) := by
  have e := bl_cons S (by omega)
  unfold zoneM
  rw [h, bl_mid, bl_mid]
  simp only
  rw [if_neg (by rw [bl_len]; omega)]
  have e4 : ((bl S).drop 3).take (5 - 3) = (bl S).drop 3 := List.take_of_length_le (by rw [List.length_drop, bl_len]; omega)
  have eh : (bl S).headD 0 = S[0]'(by omega) := by rw [e]; rfl
  rw [e4, eh]
theorem zoneM_not {S : ByteArray} (h : zoneN (bl S) = none) (h5 : S.size ≠ 5) : zoneM (bl S) = none := by
  unfold zoneM
  rw [h, bl_len]
  simp [h5]
theorem zoneM_bd {l : List UInt8} {z : Int} (h : zoneM l = some z) : -1000000 ≤ z ∧ z ≤ 1000000 := by
  rcases zone_names l with ⟨_, h1⟩ | ⟨k, _, _, x, _, h1, h2, h3⟩
  · unfold zoneM at h
    rw [h1] at h
    simp only at h
    split at h
    · cases h
    · unfold zoneR at h
      split at h
      · cases h
      · injection h with h
        unfold offN at h
        split at h <;> omega
  · unfold zoneM at h
    rw [h1] at h
    injection h with h
    omega
end Go.Proofs.Ytjmmgekildlckaa
end
