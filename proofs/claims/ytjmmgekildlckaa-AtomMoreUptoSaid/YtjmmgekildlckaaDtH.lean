/-
  The document's dates of the web (printed by gen_dth.py).
-/
import Derived.Test.YtjmmgekildlckaaDtF
import Derived.Test.YtjmmgekildlckaaDtU
namespace Go.Proofs.Ytjmmgekildlckaa
open Go.RowKit Go.Nst
set_option maxRecDepth 100000
set_option linter.unusedVariables false
set_option linter.unusedSimpArgs false

theorem webR_short {S : ByteArray} (h : S.size < 20) : webR (bl S) = none := by
  unfold webR
  rw [if_pos (.inl (by rw [bl_len]; exact h))]
theorem byte_ne {c : UInt8} {n : Nat} (hn : n < 256) : (some c ≠ some (UInt8.ofNat n)) ↔ c.toNat ≠ n := by
  simp only [ne_eq, Option.some.injEq, ← UInt8.toNat_inj, UInt8.toNat_ofNat']
  rw [Nat.mod_eq_of_lt (by omega)]
theorem webR_at {S : ByteArray} (h : 20 ≤ S.size) : webR (bl S) = if (S[4]'(by omega)).toNat ≠ 45 ∨ (S[7]'(by omega)).toNat ≠ 45 ∨ ((S[10]'(by omega)).toNat ≠ 84 ∧ (S[10]'(by omega)).toNat ≠ 116) ∨ (S[13]'(by omega)).toNat ≠ 58 ∨ (S[16]'(by omega)).toNat ≠ 58 then none else match restR ((bl S).drop 19) with
    | none => none
    | some rest => webZ (webD (bl S)) rest := by
  unfold webR
  rw [bl_get S 4 (by omega), bl_get S 7 (by omega), bl_get S 10 (by omega), bl_get S 13 (by omega), bl_get S 16 (by omega), bl_len]
  have e : ¬ S.size < 20 := by omega
  simp only [e, false_or, show (45 : UInt8) = UInt8.ofNat 45 from rfl, show (58 : UInt8) = UInt8.ofNat 58 from rfl, show (84 : UInt8) = UInt8.ofNat 84 from rfl, show (116 : UInt8) = UInt8.ofNat 116 from rfl, byte_ne (show 45 < 256 by omega), byte_ne (show 58 < 256 by omega), byte_ne (show 84 < 256 by omega), byte_ne (show 116 < 256 by omega)]
  rfl
theorem restR_dot {r : ByteArray} (h : 0 < r.size) (hd : (r[0]'h).toNat = 46) : restR (bl r) = if 1 ≤ runL ((bl r).drop 1) ∧ runL ((bl r).drop 1) ≤ 9 then some (((bl r).drop 1).drop (runL ((bl r).drop 1))) else none := by
  have e := bl_cons r h
  have h46 : r[0]'h = 46 := by rw [← UInt8.toNat_inj]; exact hd
  rw [h46] at e
  generalize (bl r).drop 1 = t at *
  rw [e]
  unfold restR
  simp
  try rfl
theorem restR_no {r : ByteArray} (h : 0 < r.size) (hd : (r[0]'h).toNat ≠ 46) : restR (bl r) = some (bl r) := by
  have e := bl_cons r h
  have h46 : r[0]'h ≠ 46 := by intro e; rw [e] at hd; exact hd rfl
  generalize (bl r).drop 1 = t at *
  rw [e]
  unfold restR
  simp [h46]
theorem webZ_len {d : Dt} {r : ByteArray} (h1 : bl r ≠ [90]) (h2 : bl r ≠ [122]) (h6 : r.size ≠ 6) : webZ d (bl r) = none := by
  unfold webZ
  rw [if_neg (by simp [h1, h2]), if_pos (.inl (by rw [bl_len]; exact h6))]
theorem webZ_six {d : Dt} {r : ByteArray} (h1 : bl r ≠ [90]) (h2 : bl r ≠ [122]) (h6 : r.size = 6) : webZ d (bl r) = if (r[3]'(by omega)).toNat ≠ 58 then none else match zoneR (r[0]'(by omega)) (bl (r.extract 1 3)) (bl (r.extract 4 6)) with
    | none => none
    | some z => toldR d z := by
  have e := bl_cons r (by omega)
  unfold webZ
  rw [if_neg (by simp [h1, h2]), bl_get r 3 (by omega), bl_len, bl_mid, bl_mid]
  have e4 : ((bl r).drop 4).take (6 - 4) = (bl r).drop 4 := List.take_of_length_le (by rw [List.length_drop, bl_len]; omega)
  have eh : (bl r).headD 0 = r[0]'(by omega) := by rw [e]; rfl
  rw [e4, eh]
  simp only [h6, ne_eq, not_true_eq_false, false_or, show (58 : UInt8) = UInt8.ofNat 58 from rfl]
  have := byte_ne (c := r[3]'(by omega)) (n := 58) (by omega)
  simp only [ne_eq] at this
  simp only [this]
  rfl
theorem drop_atH {S : ByteArray} {k : Nat} (hk : k < S.size) : (bl S).drop k = (S[k]'hk) :: (bl S).drop (k + 1) := by
  have h2 : k < (bl S).length := by rw [bl_len]; exact hk
  rw [List.drop_eq_getElem_cons h2]
  congr 1
theorem ext_size (S : ByteArray) (i k : Nat) : (S.extract i k).size ≤ S.size := by
  rw [← bl_len, bl_mid, ← bl_len]
  simp
  omega
theorem ba_of_bl {r : ByteArray} {l : List UInt8} (h : bl r = l) : r = ⟨l.toArray⟩ := by rw [← h, bl_mk]
theorem toList_ne {r : ByteArray} {l : List UInt8} (h : bl r ≠ l) : ¬ r.toList = l := by rw [bl_toList]; exact h
theorem zoneR_bd {c : UInt8} {h m : List UInt8} {z : Int} (e : zoneR c h m = some z) : -1000000 ≤ z ∧ z ≤ 1000000 := by
  unfold zoneR at e
  split at e
  · cases e
  · injection e with e
    unfold offN at e
    split at e <;> omega


end Go.Proofs.Ytjmmgekildlckaa
