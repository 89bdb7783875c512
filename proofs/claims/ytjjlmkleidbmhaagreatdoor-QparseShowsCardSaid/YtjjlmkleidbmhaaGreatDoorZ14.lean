/-
  Queries' texts and what they lean on, part 14: only what the claims need.
-/
import Derived.Test.YtjjlmkleidbmhaaGreatDoorZ12
import Derived.Test.YtjjlmkleidbmhaaGreatDoorZ13
import Derived.Test.YtjjlmkleidbmhaaGreatDoorZ10
import Derived.Lib.AppendIntMem
import Derived.Lib.ItoaLen
import Derived.Lib.LaidTab
import Derived.Test.YtjjlmkleidbmhaaGreatDoorZ11
import Derived.Test.YtjjlmkleidbmhaaGreatDoorZ01
import Derived.Test.YtjjlmkleidbmhaaGreatDoorZ06
import Derived.Test.YtjjlmkleidbmhaaGreatDoorZ04
section
namespace Go.Proofs.YtjjlmkleidbmhaaGreatDoor
open Go.ChangeShapes Go.WideShapes Go.ChangeAt Go.Deep
open Go.RowKit Go.Nst
set_option maxRecDepth 100000
set_option linter.unusedVariables false
set_option linter.unusedSimpArgs false

/-- the cells of a part -/
def ptV (p : Pt) : Array Value := #[.string ⟨p.s.toArray⟩, .int .i64 p.p]
def PtP (w : World) (S : Nat → Prop) (v : Array Value) (p : Pt) : Prop := v = ptV p ∧ p.s.length ≤ 512 ∧ 0 ≤ p.p ∧ p.p ≤ 512
theorem ptP : ElP 2 PtP where
  pos := by omega
  size := by rintro w S v x ⟨rfl, _⟩; rfl
  one := by
    rintro w S v x ⟨rfl, _⟩ u hu
    simp only [ptV, List.mem_cons, List.not_mem_nil, or_false] at hu
    rcases hu with rfl | rfl <;> rfl
  keep := by rintro w w' S S' v x _ _ _ h; exact h
abbrev PtA := RwA 2 PtP
abbrev PtR := RwR 2 PtP
theorem iPtC : Info Tryz.prog 39 58 (.agg #[.string ⟨#[]⟩, .int .i64 0]) 2 24 := Info.mk_ Tryz.underlying39 (by kernel_rfl) rfl (by omega)
theorem iPtR : Info Tryz.prog 47 62 (.agg #[.string ⟨#[]⟩, .int .i64 0]) 2 24 := Info.mk_ Tryz.underlying47 (by kernel_rfl) rfl (by omega)
/-- parts handed back -/
def RetPts (w : World) (l : List Pt) (e : Ending) (w' : World) : Prop := ∃ A n c, e = .returned (.slice A n c) ∧ PtA w' (fun b => w.heap.size ≤ b) A n l ∧ n ≤ c ∧ c ≤ 9223372036854775807 ∧ Below w.heap.size w w'
theorem sideN {c : UInt8} : sideB c = decide (c.toNat = 32 ∨ c.toNat = 40 ∨ c.toNat = 41) := by
  have f : ∀ d : UInt8, (c == d) = decide (c.toNat = d.toNat) := fun d => by
    rw [Bool.eq_iff_iff, beq_iff_eq, decide_eq_true_eq]
    exact ⟨fun h => by rw [h], fun h => UInt8.toNat_inj.1 h⟩
  unfold sideB
  rw [f 32, f 40, f 41]
  simp [Bool.or_assoc]
theorem side26_any (c : Nat) (w : World) : Calls Tryz.prog 30 #[.int .u8 (c : Int)] w fun e w' => e = .returned (.bool (decide (c = 32 ∨ c = 40 ∨ c = 41))) ∧ w' = w := by
  by_cases h1 : c = 32
  · subst h1
    go_enter Tryz.func30, Tryz.ntmps30
    go_wp2_with fail
    go_ret
    exact ⟨rfl, rfl⟩
  by_cases h2 : c = 40
  · subst h2
    go_enter Tryz.func30, Tryz.ntmps30
    go_wp2_with fail
    go_ret
    exact ⟨rfl, rfl⟩
  by_cases h3 : c = 41
  · subst h3
    go_enter Tryz.func30, Tryz.ntmps30
    go_wp2_with fail
    go_ret
    exact ⟨rfl, rfl⟩
  have d1 : ((c : Int) == 32) = false := by rw [beq_eq_false_iff_ne]; omega
  have d2 : ((c : Int) == 40) = false := by rw [beq_eq_false_iff_ne]; omega
  have d3 : ((c : Int) == 41) = false := by rw [beq_eq_false_iff_ne]; omega
  have hv : Hid (decide (c = 32 ∨ c = 40 ∨ c = 41) = false) := Lib.hid (by simp [h1, h2, h3])
  generalize decide (c = 32 ∨ c = 40 ∨ c = 41) = b at *
  clear h1 h2 h3
  go_enter Tryz.func30, Tryz.ntmps30
  go_wp2_with fail
  go_ret
  exact ⟨by rw [hv.out]; rfl, rfl⟩
/-- the run that begins at a place -/
theorem run_upto {l : List UInt8} {i k : Nat} (hik : i ≤ k) (hkl : k ≤ l.length) (h : ∀ j, i ≤ j → j < k → ∀ c, l[j]? = some c → runB c = true) (hend : k = l.length ∨ ∃ c, l[k]? = some c ∧ runB c = false) :
    (l.drop i).takeWhile runB = (l.drop i).take (k - i) ∧ (l.drop i).dropWhile runB = l.drop k := by
  have e : l.drop i = (l.drop i).take (k - i) ++ l.drop k := by
    conv => lhs; rw [← List.take_append_drop (k - i) (l.drop i)]
    rw [List.drop_drop, show i + (k - i) = k by omega]
  have hall : ∀ x ∈ (l.drop i).take (k - i), runB x = true := by
    intro x hx
    obtain ⟨j, hj, rfl⟩ := List.mem_iff_getElem.1 hx
    simp only [List.length_take, List.length_drop] at hj
    have hg : l[i + j]? = some (((l.drop i).take (k - i))[j]) := by
      rw [List.getElem_take, List.getElem_drop, List.getElem?_eq_getElem (by omega)]
    exact h (i + j) (by omega) (by omega) _ hg
  generalize (l.drop i).take (k - i) = a at *
  rw [e]
  rcases hend with hk | ⟨c, hc, hr⟩
  · have : l.drop k = [] := List.drop_of_length_le (by omega)
    rw [this, List.append_nil]
    clear e this
    induction a with
    | nil => exact ⟨rfl, rfl⟩
    | cons x a ih =>
      have hx := hall x (by simp)
      obtain ⟨h1, h2⟩ := ih (fun y hy => hall y (by simp [hy]))
      rw [List.takeWhile_cons, List.dropWhile_cons, if_pos hx, if_pos hx, h1, h2]
      exact ⟨rfl, rfl⟩
  · obtain ⟨hl, hv⟩ := List.getElem?_eq_some_iff.1 hc
    rw [List.drop_eq_getElem_cons hl, hv]
    obtain ⟨h1, h2⟩ := tw_cut (p := runB) hr (l.drop (k + 1)) a
    rw [h1, h2]
    clear e h1 h2
    induction a with
    | nil => exact ⟨rfl, rfl⟩
    | cons x a ih =>
      have hx := hall x (by simp)
      obtain ⟨h1, h2⟩ := ih (fun y hy => hall y (by simp [hy]))
      rw [List.takeWhile_cons, List.dropWhile_cons, if_pos hx, if_pos hx, h1]
      refine ⟨rfl, ?_⟩
      rw [h2]
theorem ext_run {S : ByteArray} {l : List UInt8} (h : bl S = l) (i k : Nat) (hik : i ≤ k) (hk : k ≤ S.size) : S.extract i k = ⟨((l.drop i).take (k - i)).toArray⟩ := by
  have h1 := bl_mid S i k
  rw [h] at h1
  apply ByteArray.ext
  apply Array.ext'
  exact h1
/-- the parts at a place: none more, a blank, a side byte, a run -/
theorem pts_b {l : List UInt8} {i : Nat} {c : UInt8} (hc : l[i]? = some c) (h : c.toNat = 32) : ptsL (l.drop i) i = ptsL (l.drop (i + 1)) ((i + 1 : Nat) : Int) := by
  obtain ⟨hl, hv⟩ := List.getElem?_eq_some_iff.1 hc
  rw [List.drop_eq_getElem_cons hl, hv]
  obtain rfl : c = 32 := UInt8.toNat_inj.1 h
  rw [ptsL_blank]
  simp
theorem pts_s {l : List UInt8} {i : Nat} {c : UInt8} (hc : l[i]? = some c) (h : c.toNat = 40 ∨ c.toNat = 41) : ptsL (l.drop i) i = ⟨(l.drop i).take 1, i⟩ :: ptsL (l.drop (i + 1)) ((i + 1 : Nat) : Int) := by
  obtain ⟨hl, hv⟩ := List.getElem?_eq_some_iff.1 hc
  rw [List.drop_eq_getElem_cons hl, hv]
  have hs : sideB c = true := by rw [sideN]; simp; omega
  have h0 : (c == 32) = false := by
    rw [beq_eq_false_iff_ne]
    rintro rfl
    simp at h
  rw [ptsL_side _ _ hs h0]
  simp
theorem pts_r {l : List UInt8} {i k : Nat} {c : UInt8} (hc : l[i]? = some c) (h : ¬ (c.toNat = 32 ∨ c.toNat = 40 ∨ c.toNat = 41)) (hik : i + 1 ≤ k) (hkl : k ≤ l.length) (hr : ∀ j, i + 1 ≤ j → j < k → ∀ c, l[j]? = some c → runB c = true) (hend : k = l.length ∨ ∃ c, l[k]? = some c ∧ runB c = false) :
    ptsL (l.drop i) i = ⟨(l.drop i).take (k - i), i⟩ :: ptsL (l.drop k) (k : Int) := by
  obtain ⟨hl, hv⟩ := List.getElem?_eq_some_iff.1 hc
  obtain ⟨h1, h2⟩ := run_upto hik hkl hr hend
  rw [List.drop_eq_getElem_cons hl, hv]
  have hs : sideB c = false := by rw [sideN]; simpa using h
  rw [ptsL_run _ _ hs, h1, h2]
  have hlen : ((l.drop (i + 1)).take (k - (i + 1))).length = k - (i + 1) := by
    rw [List.length_take, List.length_drop]
    omega
  rw [hlen, show k - i = (k - (i + 1)) + 1 by omega, List.take_succ_cons]
  rw [show (i : Int) + 1 + ((k - (i + 1) : Nat) : Int) = (k : Int) by omega]
set_option maxHeartbeats 1000000 in
theorem parts26_any (l : List UInt8) (w : World) (hl : l.length ≤ 512) : Calls Tryz.prog 17 #[.string ⟨l.toArray⟩] w (RetPts w (ptsL l 0)) := by
  obtain ⟨S, hS⟩ : ∃ S, S = ByteArray.mk l.toArray := ⟨_, rfl⟩
  have hsl : bl S = l := by rw [hS, bl_of]
  have hsz : S.size = l.length := by rw [hS, size_of]
  have HSL := Lib.hid hsl
  have HSZ := Lib.hid (And.intro hsz hl)
  have hz : S.size ≤ 512 := by omega
  rw [← hS]
  clear hS hsl hsz hl
  go_enter Tryz.func17, Tryz.ntmps17
  go_wp2_with fail
  go_loopw [3, 4] (fun v iv wr => ∃ (i : Nat) (A' : Option Addr) (n c' : Nat) (acc : List Pt), i ≤ S.size ∧ iv = .int .i64 i ∧ v = .slice A' n c' ∧ n ≤ i ∧ Hid (RwO 58 2 PtP wr w.heap.size (fun _ => False) A' n c' acc) ∧ Hid (ptsL l 0 = acc ++ ptsL (l.drop i) i) ∧ Hid (Below w.heap.size w wr)) (fun _ iv _ => S.size - (intOf iv).toNat)
  case atStart => exact ⟨0, none, 0, 0, [], Nat.zero_le _, rfl, rfl, Nat.le_refl _, Lib.hid RwO.nil, Lib.hid (by simp), Lib.hid (Below.refl _ _)⟩
  case round =>
    obtain ⟨i, A', n, c', acc, hil, rfl, rfl, hn, HO, HP, HB⟩ := hrel
    have hcp1 := HO.out.cap.1
    have hcp2 := HO.out.cap.2
    by_cases hlt : i < S.size
    · have hlt' : decide (i < S.size) = true := by simpa using hlt
      have hlti : (i : Int) < (S.size : Int) := by omega
      have hix := fun W => str_at14 S i W hlt
      have hgc : l[i]? = some (S[i]'hlt) := by
        rw [← HSL.out]
        simp [bl, ByteArray.getElem_eq_getElem_data]
      have HGC := Lib.hid hgc
      obtain ⟨c, hc⟩ : ∃ c : Nat, c = (S[i]'hlt).toNat := ⟨_, rfl⟩
      rw [← hc] at hix
      have HCC := Lib.hid hc
      have hc256 : c < 256 := by rw [hc]; exact UInt8.toNat_lt _
      clear hgc hc
      by_cases h32 : c = 32
      · have d1 : ((c : Int) == 32) = true := by simp; omega
        have HP2 : Hid (ptsL l 0 = acc ++ ptsL (l.drop (i + 1)) ((i + 1 : Nat) : Int)) := Lib.hid (by rw [HP.out, pts_b HGC.out (by rw [← HCC.out]; exact h32)])
        subst h32
        go_wp2_with fail
        go_roundw
        case rel => exact ⟨i + 1, A', n, c', acc, by omega, by go_num, rfl, by omega, HO, HP2, HB⟩
        case measure => simp [intOf] <;> omega
      · have d1 : ((c : Int) == 32) = false := by rw [beq_eq_false_iff_ne]; omega
        have HS := Lib.hid (fun W => side26_any c W)
        by_cases hs : c = 40 ∨ c = 41
        · have HP2 : Hid (ptsL l 0 = (acc ++ [⟨(l.drop i).take (i + 1 - i), i⟩]) ++ ptsL (l.drop (i + 1)) ((i + 1 : Nat) : Int)) := Lib.hid (by rw [HP.out, pts_s HGC.out (by rw [← HCC.out]; exact hs), Nat.add_sub_cancel_left, List.append_assoc]; rfl)
          rw [show decide (c = 32 ∨ c = 40 ∨ c = 41) = true by simp; omega] at HS
          clear hs
          go_wp2_with fail
          (with_reducible refine (HS.out _).mono ?_)
          rintro _ wx ⟨rfl, hwx⟩
          obtain rfl := hwx.symm
          have hx := ext_run HSL.out i (i + 1) (by omega) (by omega)
          have hpp : PtP wr (fun b => False ∧ some b ≠ (Value.slice A' n c').ownBlock) #[.string (S.extract i (i + 1)), .int .i64 (i : Int)] ⟨(l.drop i).take ((i + 1) - i), i⟩ := ⟨by rw [hx]; rfl, by simp; have := HSZ.out; omega, by simp, by simp; have := HSZ.out; omega⟩
          have hr : PtR (wr.alloc (.cells #[.string (S.extract i (i + 1)), .int .i64 (i : Int)] 58)) (fun b => False ∧ some b ≠ (Value.slice A' n c').ownBlock) (some ⟨wr.heap.size, 0, none⟩) 1 [⟨(l.drop i).take ((i + 1) - i), i⟩] := RwR.lit ptP hpp
          have ho := HO.out.bel ptP (bel_alloc (Below.refl wr.heap.size wr) (.cells #[.string (S.extract i (i + 1)), .int .i64 (i : Int)] 58))
          have hba : w.heap.size ≤ (wr.alloc (.cells #[.string (S.extract i (i + 1)), .int .i64 (i : Int)] 58)).heap.size := by have := HB.out.size; simp; omega
          have HX := Lib.hid (bel_alloc (Below.refl wr.heap.size wr) (.cells #[.string (S.extract i (i + 1)), .int .i64 (i : Int)] 58))
          have hn1 : n ≤ 600 := by have := HSZ.out; omega
          clear hx hpp
          go_wp2_with (at_builtin; go_loud (refine wpList_appZ ptP iPtC rfl rfl rfl ho rfl hr (by omega) (by omega) hba ?_; intro A7 c7 w7 ho7 hb7 hgr7; have HO7 := Lib.hid ho7; have HB7 := Lib.hid hb7; clear ho7 hb7 hgr7))
          go_roundw
          case rel => exact ⟨(i + 1), A7, n + 1, c7, acc ++ [⟨(l.drop i).take ((i + 1) - i), i⟩], by omega, by go_num, rfl, by omega, HO7, HP2, Lib.hid (HB.out.trans ((HX.out.mono HB.out.size).trans HB7.out))⟩
          case measure => simp [intOf] <;> omega
        · rw [show decide (c = 32 ∨ c = 40 ∨ c = 41) = false by simp; omega] at HS
          have hns : ¬ ((S[i]'hlt).toNat = 32 ∨ (S[i]'hlt).toNat = 40 ∨ (S[i]'hlt).toNat = 41) := by rw [← HCC.out]; omega
          have HNS := Lib.hid hns
          clear hns hs
          go_wp2_with fail
          (with_reducible refine (HS.out _).mono ?_)
          rintro _ wx ⟨rfl, hwx⟩
          obtain rfl := hwx.symm
          go_wp2_with fail
          go_loop [5] (fun kv => ∃ k : Nat, kv = .int .i64 k ∧ i + 1 ≤ k ∧ k ≤ S.size ∧ Hid (∀ j, i + 1 ≤ j → j < k → ∀ c, l[j]? = some c → runB c = true)) (fun kv => S.size - (intOf kv).toNat)
          case atStart => exact ⟨i + 1, by go_num, Nat.le_refl _, by omega, Lib.hid (fun j h1 h2 => absurd h2 (by omega))⟩
          case round =>
            obtain ⟨k, rfl, hk1, hk2, HR⟩ := hrel
            by_cases hkl : k < S.size
            · have hkl' : decide (k < S.size) = true := by simpa using hkl
              have hkli : (k : Int) < (S.size : Int) := by omega
              have hjx := fun W => str_at14 S k W hkl
              have hgk : l[k]? = some (S[k]'hkl) := by
                rw [← HSL.out]
                simp [bl, ByteArray.getElem_eq_getElem_data]
              have HGK := Lib.hid hgk
              obtain ⟨ck, hck⟩ : ∃ c : Nat, c = (S[k]'hkl).toNat := ⟨_, rfl⟩
              rw [← hck] at hjx
              have HCK := Lib.hid hck
              have hck256 : ck < 256 := by rw [hck]; exact UInt8.toNat_lt _
              have HS2 := Lib.hid (fun W => side26_any ck W)
              obtain ⟨bs, hbs⟩ : ∃ b, b = decide (ck = 32 ∨ ck = 40 ∨ ck = 41) := ⟨_, rfl⟩
              rw [← hbs] at HS2
              have HBS : Hid (runB (S[k]'hkl) = !bs) := Lib.hid (by rw [hbs, runB, sideN, ← hck])
              clear hgk hck hbs
              cases bs with
              | true =>
                have HP2 : Hid (ptsL l 0 = (acc ++ [⟨(l.drop i).take (k - i), i⟩]) ++ ptsL (l.drop k) (k : Int)) := Lib.hid (by rw [HP.out, pts_r HGC.out HNS.out hk1 (by have := HSZ.out; omega) HR.out (.inr ⟨_, HGK.out, HBS.out⟩), List.append_assoc]; rfl)
                go_wp2_with fail
                (with_reducible refine (HS2.out _).mono ?_)
                rintro _ wy ⟨rfl, hwx⟩
                obtain rfl := hwx.symm
                have hx := ext_run HSL.out i k (by omega) (by omega)
                have hpp : PtP wr (fun b => False ∧ some b ≠ (Value.slice A' n c').ownBlock) #[.string (S.extract i k), .int .i64 (i : Int)] ⟨(l.drop i).take (k - i), i⟩ := ⟨by rw [hx]; rfl, by simp; have := HSZ.out; omega, by simp, by simp; have := HSZ.out; omega⟩
                have hr : PtR (wr.alloc (.cells #[.string (S.extract i k), .int .i64 (i : Int)] 58)) (fun b => False ∧ some b ≠ (Value.slice A' n c').ownBlock) (some ⟨wr.heap.size, 0, none⟩) 1 [⟨(l.drop i).take (k - i), i⟩] := RwR.lit ptP hpp
                have ho := HO.out.bel ptP (bel_alloc (Below.refl wr.heap.size wr) (.cells #[.string (S.extract i k), .int .i64 (i : Int)] 58))
                have hba : w.heap.size ≤ (wr.alloc (.cells #[.string (S.extract i k), .int .i64 (i : Int)] 58)).heap.size := by have := HB.out.size; simp; omega
                have HX := Lib.hid (bel_alloc (Below.refl wr.heap.size wr) (.cells #[.string (S.extract i k), .int .i64 (i : Int)] 58))
                have hn1 : n ≤ 600 := by have := HSZ.out; omega
                clear hx hpp
                go_wp2_with (at_builtin; go_loud (refine wpList_appZ ptP iPtC rfl rfl rfl ho rfl hr (by omega) (by omega) hba ?_; intro A7 c7 w7 ho7 hb7 hgr7; have HO7 := Lib.hid ho7; have HB7 := Lib.hid hb7; clear ho7 hb7 hgr7))
                go_roundw
                case rel => exact ⟨k, A7, n + 1, c7, acc ++ [⟨(l.drop i).take (k - i), i⟩], by omega, by go_num, rfl, by omega, HO7, HP2, Lib.hid (HB.out.trans ((HX.out.mono HB.out.size).trans HB7.out))⟩
                case measure => simp [intOf] <;> omega
              | false =>
                have HR2 : Hid (∀ j, i + 1 ≤ j → j < k + 1 → ∀ c, l[j]? = some c → runB c = true) := Lib.hid (fun j h1 h2 c hc => by
                  rcases Nat.lt_or_ge j k with h | h
                  · exact HR.out j h1 h c hc
                  · obtain rfl : j = k := by omega
                    rw [HGK.out] at hc
                    injection hc with hc
                    rw [← hc]
                    exact HBS.out)
                go_wp2_with fail
                (with_reducible refine (HS2.out _).mono ?_)
                rintro _ wy ⟨rfl, hwx⟩
                obtain rfl := hwx.symm
                go_wp2_with fail
                go_round
                case rel => exact ⟨k + 1, by go_num, by omega, by omega, HR2⟩
                case measure => simp [intOf] <;> omega
            · obtain rfl : k = S.size := by omega
              have hkl' : decide (S.size < S.size) = false := by simp
              have HP2 : Hid (ptsL l 0 = (acc ++ [⟨(l.drop i).take (S.size - i), i⟩]) ++ ptsL (l.drop S.size) (S.size : Int)) := Lib.hid (by rw [HP.out, pts_r HGC.out HNS.out hk1 (by have := HSZ.out; omega) HR.out (.inl HSZ.out.1), List.append_assoc]; rfl)
              have hx := ext_run HSL.out i S.size (by omega) (by omega)
              have hpp : PtP wr (fun b => False ∧ some b ≠ (Value.slice A' n c').ownBlock) #[.string (S.extract i S.size), .int .i64 (i : Int)] ⟨(l.drop i).take (S.size - i), i⟩ := ⟨by rw [hx]; rfl, by simp; have := HSZ.out; omega, by simp, by simp; have := HSZ.out; omega⟩
              have hr : PtR (wr.alloc (.cells #[.string (S.extract i S.size), .int .i64 (i : Int)] 58)) (fun b => False ∧ some b ≠ (Value.slice A' n c').ownBlock) (some ⟨wr.heap.size, 0, none⟩) 1 [⟨(l.drop i).take (S.size - i), i⟩] := RwR.lit ptP hpp
              have ho := HO.out.bel ptP (bel_alloc (Below.refl wr.heap.size wr) (.cells #[.string (S.extract i S.size), .int .i64 (i : Int)] 58))
              have hba : w.heap.size ≤ (wr.alloc (.cells #[.string (S.extract i S.size), .int .i64 (i : Int)] 58)).heap.size := by have := HB.out.size; simp; omega
              have HX := Lib.hid (bel_alloc (Below.refl wr.heap.size wr) (.cells #[.string (S.extract i S.size), .int .i64 (i : Int)] 58))
              have hn1 : n ≤ 600 := by have := HSZ.out; omega
              clear hx hpp
              go_wp2_with (at_builtin; go_loud (refine wpList_appZ ptP iPtC rfl rfl rfl ho rfl hr (by omega) (by omega) hba ?_; intro A7 c7 w7 ho7 hb7 hgr7; have HO7 := Lib.hid ho7; have HB7 := Lib.hid hb7; clear ho7 hb7 hgr7))
              go_roundw
              case rel => exact ⟨S.size, A7, n + 1, c7, acc ++ [⟨(l.drop i).take (S.size - i), i⟩], by omega, by go_num, rfl, by omega, HO7, HP2, Lib.hid (HB.out.trans ((HX.out.mono HB.out.size).trans HB7.out))⟩
              case measure => simp [intOf] <;> omega
    · obtain rfl : i = S.size := by omega
      have hlt' : decide (S.size < S.size) = false := by simp
      have HQ := Lib.hid (HO.out.qs ptP (S' := fun b => w.heap.size ≤ b) (fun b h _ => h.elim) (fun b h _ => h))
      have HF : Hid (ptsL l 0 = acc) := Lib.hid (by rw [HP.out, List.drop_of_length_le (by have := HSZ.out; omega), ptsL_nil, List.append_nil])
      clear HO
      go_wp2_with fail
      go_ret
      exact ⟨A', n, c', rfl, by rw [HF.out]; exact HQ.out, hcp1, hcp2, HB.out⟩
end Go.Proofs.YtjjlmkleidbmhaaGreatDoor
end
section
namespace Go.Proofs.YtjjlmkleidbmhaaGreatDoor
open Go.RowKit Go.Nst
set_option maxRecDepth 100000
set_option linter.unusedVariables false
set_option linter.unusedSimpArgs false

theorem QAt.one {w : World} {S : Nat → Prop} {v : Array Value} {q : Qy} (h : QAt w S v q) : ∀ u ∈ v.toList, u.oneCell' = true := by
  cases h with
  | mk V hk ho hn hs hc hA hq =>
    intro u hu
    simp only [qV, List.mem_cons, List.not_mem_nil, or_false] at hu
    rcases hu with rfl | rfl | rfl | rfl <;> rfl
/-- arrays of four cells, one behind the other -/
def rowC (V : Nat → Array Value) (m : Nat) : List Value := (List.range m).flatMap fun i => (V i).toList
theorem rowC_succ (V : Nat → Array Value) (m : Nat) : rowC V (m + 1) = rowC V m ++ (V m).toList := by simp [rowC, List.range_succ]
theorem rowC_len (V : Nat → Array Value) : ∀ m, (∀ i, i < m → (V i).size = 4) → (rowC V m).length = m * 4
  | 0, _ => rfl
  | m + 1, h => by
    rw [rowC_succ, List.length_append, rowC_len V m fun i hi => h i (by omega), Array.length_toList, h m (by omega)]
    omega
theorem rowC_get (V : Nat → Array Value) : ∀ m, (∀ i, i < m → (V i).size = 4) → ∀ i j, i < m → j < 4 → (rowC V m)[i * 4 + j]? = (V i)[j]?
  | 0, _, i, j, hi, _ => absurd hi (by omega)
  | m + 1, h, i, j, hi, hj => by
    have hl := rowC_len V m fun i hi => h i (by omega)
    rw [rowC_succ]
    by_cases he : i = m
    · subst he
      rw [List.getElem?_append_right (by omega), hl]
      simp
    · rw [List.getElem?_append_left (by omega)]
      exact rowC_get V m (fun i hi => h i (by omega)) i j (by omega) hj
/-- a slice reads as a list of queries, wherever the slice itself lies -/
def QsR (w : World) (S : Nat → Prop) (A : Option Addr) (k : Nat) (l : List Qy) : Prop :=
  l.length = k ∧ ∃ V : Nat → Array Value, (0 < k → ∃ b off, A = some ⟨b, off, none⟩ ∧ b < w.heap.size ∧ ∀ (i j : Nat) (u : Value), i < k → (V i)[j]? = some u → w.cell? ⟨b, off + i * 4 + j, none⟩ = some u) ∧ ∀ (i : Nat) (q : Qy), l[i]? = some q → QAt w S (V i) q
theorem QsAt.r {w : World} {S S' : Nat → Prop} {A : Option Addr} {k : Nat} {l : List Qy} (h : QsAt w S A k l) (hS : ∀ b, S b → b < w.heap.size → S' b) : QsR w S' A k l := by
  obtain ⟨hk, V, hA, hq⟩ := h
  exact ⟨hk, V, fun h0 => let ⟨b, off, e, _, hb, hc⟩ := hA h0; ⟨b, off, e, hb, hc⟩, fun i q hi => (hq i q hi).wide hS⟩
theorem QsR.reads {w : World} {S : Nat → Prop} {A : Option Addr} {k : Nat} {l : List Qy} (h : QsR w S A k l) : ∃ V : Nat → Array Value, Reads w w.heap.size 4 A k (rowC V k) ∧ (∀ i, i < k → (V i).size = 4) ∧ (∀ u ∈ rowC V k, u.oneCell' = true) ∧ ∀ (i : Nat) (q : Qy), l[i]? = some q → QAt w S (V i) q := by
  obtain ⟨hk, V, hA, hq⟩ := h
  have hget : ∀ i, i < k → QAt w S (V i) (l[i]?.getD .zero) := fun i hi => by
    have hg : l[i]? = some (l[i]'(by omega)) := List.getElem?_eq_getElem (by omega)
    rw [hg]
    exact hq i _ hg
  have h4 : ∀ i, i < k → (V i).size = 4 := fun i hi => (hget i hi).size4
  refine ⟨V, ⟨rowC_len V k h4, fun h0 => ?_⟩, h4, fun u hu => ?_, hq⟩
  · obtain ⟨b, off, e, hb, hc⟩ := hA h0
    refine ⟨_, e, hb, fun j u hu => ?_⟩
    have hj : j < k * 4 := by
      have := (List.getElem?_eq_some_iff.1 hu).1
      rwa [rowC_len V k h4] at this
    rw [show j = j / 4 * 4 + j % 4 by omega] at hu ⊢
    rw [rowC_get V k h4 _ _ (by omega) (by omega)] at hu
    rw [add_lit, ← Nat.add_assoc]
    exact hc _ _ u (by omega) hu
  · obtain ⟨i, hi, hui⟩ := List.mem_flatMap.1 hu
    exact (hget i (by simpa using hi)).one u hui

theorem iQs : Info Tryz.prog 23 25 (.agg #[.int .i64 0, .int .i64 0, .string ⟨#[]⟩, .slice none 0 0]) 4 56 := Info.mk_ Tryz.underlying23 (by kernel_rfl) rfl (by omega)
/-- a row of queries of the call's own; what stands within them lies in blocks of S, not in the row's -/
def Oq (w : World) (base : Nat) (S : Nat → Prop) (A : Option Addr) (n c : Nat) (l : List Qy) : Prop :=
  ∃ xs : List Value, w.ownsRow base 25 4 (.slice A n c) n xs ∧ l.length = n ∧ ∃ V : Nat → Array Value, (∀ (i j : Nat) (u : Value), i < n → (V i)[j]? = some u → xs[i * 4 + j]? = some u) ∧ ∀ (i : Nat) (q : Qy), l[i]? = some q → QAt w (fun b => S b ∧ some b ≠ (Value.slice A n c).ownBlock) (V i) q
section
variable {w w' : World} {base : Nat} {S S' : Nat → Prop} {A : Option Addr} {n c : Nat} {l : List Qy}
theorem Oq.nil : Oq w base S none 0 0 [] := ⟨[], World.ownsRow_nil _ _ _ _, rfl, fun _ => #[], by intro i j u h; omega, by simp⟩
theorem Oq.len (h : Oq w base S A n c l) : l.length = n := by obtain ⟨_, _, h, _⟩ := h; exact h
theorem Oq.cap (h : Oq w base S A n c l) : n ≤ c ∧ c ≤ 9223372036854775807 := by obtain ⟨_, h, _⟩ := h; exact own_cap h
theorem Oq.lt (h : Oq w base S A n c l) : ∀ g, (Value.slice A n c).ownBlock = some g → base ≤ g ∧ g < w.heap.size := by obtain ⟨_, h, _⟩ := h; exact World.ownsRow.lt h
theorem Oq.bel (h : Oq w base S A n c l) (hb : Below w.heap.size w w') : Oq w' base S A n c l := by
  obtain ⟨xs, h1, h2, V, h3, h4⟩ := h
  exact ⟨xs, own_below h1 hb, h2, V, h3, fun i q hi => (h4 i q hi).bel hb⟩
theorem Oq.mono {base' : Nat} (h : Oq w base S A n c l) (hb : base' ≤ base) : Oq w base' S A n c l := by
  obtain ⟨xs, h1, h2, V, h3, h4⟩ := h
  exact ⟨xs, own_mono h1 hb, h2, V, h3, h4⟩
theorem Oq.wide (h : Oq w base S A n c l) (hS : ∀ b, S b → b < w.heap.size → S' b) : Oq w base S' A n c l := by
  obtain ⟨xs, h1, h2, V, h3, h4⟩ := h
  exact ⟨xs, h1, h2, V, h3, fun i q hi => (h4 i q hi).wide fun b hb hlt => ⟨hS b hb.1 hlt, hb.2⟩⟩
/-- it reads as a list -/
theorem Oq.qs (h : Oq w base S A n c l) (hS : ∀ b, S b → b < w.heap.size → S' b) (hB : ∀ b, base ≤ b → b < w.heap.size → S' b) : QsAt w S' A n l := by
  obtain ⟨xs, h1, h2, V, h3, h4⟩ := h
  refine ⟨h2, V, fun h0 => ?_, fun i q hi => (h4 i q hi).wide fun b hb hlt => hS b hb.1 hlt⟩
  obtain ⟨g, rfl, hg1, hg2, _⟩ := own_where h1 h0
  refine ⟨g, 0, rfl, hB g hg1 hg2, hg2, fun i j u hi hu => ?_⟩
  have := World.ownsRow.cells (g := g) h1 rfl _ u (h3 i j u hi hu)
  rw [add_lit] at this
  rwa [Nat.zero_add] at this ⊢
/-- append of what a slice reads as -/
theorem wp_appQ {o : Oper} {a : Act} {K : Act → World → Prop} {Q : Exit → Act → World → Prop} {s x : Operand}
    (ho : o.op = .call { callee := .builtin .append, args := #[s, x], argTypes := #[23, 23] })
    {A0 : Option Addr} {c0 : Nat} {L : List Qy} (hs : a.eval s = .slice A0 n c0) (hown : Oq w base S A0 n c0 L)
    {m c : Nat} {l2 : List Qy} (hx : a.eval x = .slice A m c) (hr : QsR w (fun b => S b ∧ some b ≠ (Value.slice A0 n c0).ownBlock) A m l2)
    (hn : n + m ≤ 1000000) (hbase : base ≤ w.heap.size)
    (h : ∀ A' c' w', Oq w' base S A' (n + m) c' (L ++ l2) → Below base w w' → K (a.put o.dst (.slice A' (n + m) c')) w') : o.wp Tryz.prog a w K Q := by
  obtain ⟨xs, h1, h2, V, h3, h4⟩ := hown
  obtain ⟨V2, hR, hV4, hone, hq2⟩ := hr.reads
  have hl2 := hr.1
  refine wp_app w iQs ho hs h1 hx hR hone (by unfold maxLen; omega) (by omega) hbase fun A' c' w' k1 k2 k3 => h A' c' w' ?_ ((Below.refl _ _).grown k2 hbase (fun k hk => (World.ownsRow.lt h1 k hk).1))
  have hkeep : ∀ b, (S b ∧ some b ≠ (Value.slice A0 n c0).ownBlock) → b < w.heap.size → w'.heap[b]? = w.heap[b]? := fun b hb hlt => k2.block b hlt hb.2
  have hkeep2 : ∀ b, (S b ∧ some b ≠ (Value.slice A0 n c0).ownBlock) → b < w.heap.size → (S b ∧ some b ≠ (Value.slice A' (n + m) c').ownBlock) := fun b hb hlt => by
    refine ⟨hb.1, ?_⟩
    rcases k3 with e | e
    · rw [e]; exact hb.2
    · rw [e]; intro he; injection he with he; omega
  have hlen := h1.1
  refine ⟨_, k1, by rw [List.length_append]; omega, fun i => if i < n then V i else V2 (i - n), fun i j u hi hu => ?_, fun i q hi => ?_⟩
  · by_cases hin : i < n
    · simp only [if_pos hin] at hu
      have := h3 i j u hin hu
      rw [List.getElem?_append_left (List.getElem?_eq_some_iff.1 this).1]
      exact this
    · simp only [if_neg hin] at hu
      have hj : j < 4 := by
        rcases Nat.lt_or_ge j 4 with h | h
        · exact h
        · rw [Array.getElem?_eq_none (by rw [hV4 _ (by omega)]; exact h)] at hu; cases hu
      rw [List.getElem?_append_right (by omega), hlen, show i * 4 + j - n * 4 = (i - n) * 4 + j by omega, rowC_get V2 m hV4 _ _ (by omega) hj]
      exact hu
  · by_cases hin : i < n
    · rw [List.getElem?_append_left (by omega)] at hi
      simp only [if_pos hin]
      exact (h4 i q hi).keep hkeep k2.size hkeep2
    · rw [List.getElem?_append_right (by omega), h2] at hi
      simp only [if_neg hin]
      exact (hq2 _ q hi).keep hkeep k2.size hkeep2
theorem wpList_appQ {ops : Array Oper} {rest : List Oper} {o : Oper} {a : Act} {Q : Exit → Act → World → Prop} {s x : Operand} (hgd : o.guard = none)
    (ho : o.op = .call { callee := .builtin .append, args := #[s, x], argTypes := #[23, 23] })
    {A0 : Option Addr} {c0 : Nat} {L : List Qy} (hs : a.eval s = .slice A0 n c0) (hown : Oq w base S A0 n c0 L)
    {m c : Nat} {l2 : List Qy} (hx : a.eval x = .slice A m c) (hr : QsR w (fun b => S b ∧ some b ≠ (Value.slice A0 n c0).ownBlock) A m l2)
    (hn : n + m ≤ 1000000) (hbase : base ≤ w.heap.size)
    (h : ∀ A' c' w', Oq w' base S A' (n + m) c' (L ++ l2) → Below base w w' → wpList Tryz.prog ops Q rest (a.put o.dst (.slice A' (n + m) c')) w') : wpList Tryz.prog ops Q (o :: rest) a w :=
  wpList_plain hgd fun _ hK => wp_appQ ho hs hown hx hr hn hbase fun A' c' w' h1 h2 => hK _ _ (h A' c' w' h1 h2)
/-- a cell of another block is written -/
theorem Oq.set {g j : Nat} {v : Value} (h : Oq w base S A n c l) (hg : g < base) (hS : ¬ S g) : Oq (w.setCell ⟨g, j, none⟩ v) base S A n c l := by
  obtain ⟨xs, h1, h2, V, h3, h4⟩ := h
  have hgr : w.grownBy (w.setCell ⟨g, j, none⟩ v) (some g) := only_setCell (World.grownBy.refl w _) (.inl rfl) v
  refine ⟨xs, own_only h1 hgr (fun g' hg' e => ?_), h2, V, h3, fun i q hi => (h4 i q hi).grown hgr (fun g' hg' hs => ?_)⟩
  · have := (World.ownsRow.lt h1 g' hg').1
    injection e with e
    omega
  · injection hg' with hg'
    subst hg'
    exact hS hs.1
/-- a literal of one query -/
theorem QAt.lit {vs : Array Value} {q : Qy} (h : QAt w S vs q) : QsR (w.alloc (.cells vs 25)) S (some ⟨w.heap.size, 0, none⟩) 1 [q] := by
  refine ⟨rfl, fun _ => vs, fun _ => ⟨_, _, rfl, by simp, fun i j u hi hu => ?_⟩, fun i x hi => ?_⟩
  · rw [show 0 + i * 4 + j = j by omega, (Blk.new w 25 vs).cell]
    exact hu
  · have : i = 0 := by
      rcases Nat.lt_or_ge i 1 with h | h
      · omega
      · rw [List.getElem?_eq_none (by simpa using h)] at hi; cases hi
    subst this
    simp only [List.getElem?_cons_zero, Option.some.injEq] at hi
    subst hi
    exact h.bel (bel_alloc (Below.refl _ _) _)
theorem QsR.at_ (h : QsR w S A n l) (hS : ∀ b off, A = some ⟨b, off, none⟩ → S b) : QsAt w S A n l := by
  obtain ⟨hk, V, hA, hq⟩ := h
  exact ⟨hk, V, fun h0 => let ⟨b, off, e, hb, hc⟩ := hA h0; ⟨b, off, e, hS b off e, hb, hc⟩, hq⟩
end
/-- a query handed back -/
def RetQ (w : World) (S : Nat → Prop) (q : Qy) (e : Ending) (w' : World) : Prop := ∃ vs, e = .returned (.agg vs) ∧ QAt w' (fun b => S b ∨ w.heap.size ≤ b) vs q ∧ Below w.heap.size w w'
theorem i64P_lit {z : Int} (h : -9223372036854775808 ≤ z ∧ z ≤ 9223372036854775807) : i64P z := h
theorem QAt.leaf {w : World} {S : Nat → Prop} {o n : Int} {s : List UInt8} (ho : i64P o) (hn : i64P n) (hs : s.length ≤ 9223372036854775807) : QAt w S #[.int .i64 o, .int .i64 n, .string ⟨s.toArray⟩, .slice none 0 0] ⟨o, n, s, []⟩ :=
  QAt.make ho hn hs ⟨Nat.le_refl _, by omega⟩ QsAt.nil
/-- what is not a query, made of it -/
theorem not_made {w : World} {S : Nat → Prop} {vs : Array Value} {q : Qy} (h : QAt w S vs q) (hS : S w.heap.size) {g : Nat} (hg : w.heap.size = g) : QAt (w.alloc (.cells vs 25)) S #[.int .i64 5, .int .i64 0, .string ⟨#[]⟩, .slice (some ⟨g, 0, none⟩) 1 1] (notQ q) := by
  subst hg
  exact QAt.make (s := []) (i64P_lit (by omega)) (i64P_lit (by omega)) (by simp) ⟨Nat.le_refl _, by omega⟩ (h.lit.at_ (fun b off e => by injection e with e; injection e with e; exact e ▸ hS))
theorem Not25_any (q : Qy) (vs : Array Value) (w : World) (S : Nat → Prop) (hq : QAt w S vs q) : Calls Tryz.prog 16 #[.agg vs] w (RetQ w S (notQ q)) := by
  have HQ := Lib.hid hq
  obtain ⟨A, c, rfl, ho, hn, hs, hc1, hc2, hk⟩ := hq.open_
  obtain ⟨o, n, s, l⟩ := q
  simp only [Qy.op, Qy.n, Qy.s, Qy.kids, qV] at *
  clear hq hk
  go_enter Tryz.func16, Tryz.ntmps16
  go_wp2_with fail
  refine bodyPost_ret (v := .agg #[.int .i64 5, .int .i64 0, .string ⟨#[]⟩, .slice (some ⟨w.heap.size + 1 + 1, 0, none⟩) 1 1]) (by simp [results, Tryz.results16, go_sem]) rfl ⟨_, rfl, ?_, ?_⟩
  · exact not_made ((HQ.out.bel (bel_alloc (bel_alloc (Below.refl _ _) _) _)).wide (fun b h _ => .inl h)) (by simp; right; omega) (by simp)
  · exact bel_alloc (bel_alloc (bel_alloc (Below.refl _ _) _) _) _
end Go.Proofs.YtjjlmkleidbmhaaGreatDoor
end
section
namespace Go.Proofs.YtjjlmkleidbmhaaGreatDoor
open Go.RowKit Go.Nst
set_option maxRecDepth 100000
set_option linter.unusedVariables false
set_option linter.unusedSimpArgs false

theorem tab_keep {name : String} {k : IntKind} {zs : List Int} {g : Nat} {w W : World} (hg : Tryz.prog.globalNamed name = some g) (h : Lib.TabIs Tryz.prog w name k zs) (hb : Below w.heap.size w W) : Lib.TabIs Tryz.prog W name k zs := by
  unfold Lib.TabIs World.var? at *
  rw [hg] at h ⊢
  simp only [Option.bind_some] at h ⊢
  have hlt : g < w.heap.size := by
    rcases Nat.lt_or_ge g w.heap.size with h1 | h1
    · exact h1
    · rw [Array.getElem?_eq_none h1] at h
      simp at h
  rw [hb.block g hlt]
  exact h
end Go.Proofs.YtjjlmkleidbmhaaGreatDoor
end
section
namespace Go.Proofs.YtjjlmkleidbmhaaGreatDoor
open Go.ChangeShapes Go.WideShapes Go.ChangeAt Go.Deep
open Go.RowKit Go.Nst
set_option maxRecDepth 100000
set_option linter.unusedVariables false
set_option linter.unusedSimpArgs false

/-- the variables that numbers want -/
structure QpW (w : World) : Prop where
  max : ∃ m, w.cell? ⟨0, 0, none⟩ = some (.int .i64 m)
  tab : Lib.TabIs Tryz.prog w "internal/strconv.uint64pow10" .u64 Lib.pow10Tab
  syn : ∃ te pe, w.cell? ⟨4, 0, none⟩ = some (.iface te pe)
  rng : ∃ te pe, w.cell? ⟨5, 0, none⟩ = some (.iface te pe)
theorem QpW.keep {w W : World} (h : QpW w) (hb : Below w.heap.size w W) : QpW W := by
  have f : ∀ (g : Nat) (v : Value), w.cell? ⟨g, 0, none⟩ = some v → W.cell? ⟨g, 0, none⟩ = some v := fun g v hv => (hb.cell (show (⟨g, 0, none⟩ : Addr).block < w.heap.size from Lib.lt_of_cell hv)).trans hv
  obtain ⟨t1, p1, h1⟩ := h.syn
  obtain ⟨t2, p2, h2⟩ := h.rng
  obtain ⟨m, h3⟩ := h.max
  exact ⟨⟨m, f _ _ h3⟩, tab_keep (g := 1) (by kernel_rfl) h.tab hb, ⟨t1, p1, f _ _ h1⟩, ⟨t2, p2, f _ _ h2⟩⟩
theorem below_grown {a b : World} {g R : Nat} (h : a.grownBy b (some R)) (hg : g ≤ R) (hs : g ≤ a.heap.size) : Below g a b :=
  ⟨h.os, h.tape, h.output, h.size, fun i hi => h.block i (by omega) (by intro e; injection e with e; omega)⟩
theorem env_set {w : World} {g : Nat} {v : Value} (h : ∀ W, Below g w W → QpW W) (hl : g < w.heap.size) : ∀ W, Below g (w.setCell ⟨g, 0, none⟩ v) W → QpW W :=
  fun W hW => h W ((below_grown (only_setCell (p := ⟨g, 0, none⟩) (World.grownBy.refl w (some g)) (.inl rfl) v) (Nat.le_refl _) (Nat.le_of_lt hl)).trans hW)
/-- the parser: its block, the parts that are left; what lies below it -/
structure Psr (w : World) (g : Nat) (S : Nat → Prop) (l : List Pt) (e : Int) (A : Option Addr) (n c : Nat) : Prop where
  blk : Blk w g 42 #[.slice A n c, .int .i64 e]
  row : PtA w S A n l
  cap : n ≤ c ∧ c ≤ 9223372036854775807
  off : ¬ S g
  env : ∀ W, Below g w W → QpW W
theorem pt_at {w : World} {S : Nat → Prop} {A : Option Addr} {n : Nat} {l : List Pt} (h : PtA w S A n l) {i : Nat} (hi : i < n) : ∃ (p : Pt) (b off : Nat), Hid (l[i]? = some p) ∧ A = some ⟨b, off, none⟩ ∧ S b ∧ b < w.heap.size ∧ (p.s.length ≤ 512 ∧ 0 ≤ p.p ∧ p.p ≤ 512) ∧
    w.cell? ⟨b, off + i * 2, none⟩ = some (.string ⟨p.s.toArray⟩) ∧ w.cell? ⟨b, off + i * 2 + 1, none⟩ = some (.int .i64 p.p) := by
  obtain ⟨p, v, b, off, h1, h2, h3, h4, ⟨rfl, h5⟩, h7⟩ := h.get hi
  exact ⟨p, b, off, h1, h2, h3, h4, h5, h7 0 _ rfl, h7 1 _ rfl⟩
theorem pt_tail {w : World} {S : Nat → Prop} {b off n : Nat} {p : Pt} {l : List Pt} (h : PtA w S (some ⟨b, off, none⟩) (n + 1) (p :: l)) : PtA w S (some ⟨b, off + 2, none⟩) n l := by
  obtain ⟨hk, V, hA, hq⟩ := h
  refine ⟨by simpa using hk, fun i => V (i + 1), fun h0 => ?_, fun i x hi => hq (i + 1) x (by simpa using hi)⟩
  obtain ⟨b', off', e, hb, hlt, hc⟩ := hA (by omega)
  injection e with e
  injection e with e1 e2
  subst e1
  subst e2
  refine ⟨_, _, rfl, hb, hlt, fun i j u hi hu => ?_⟩
  have := hc (i + 1) j u (by omega) hu
  rw [show off + 2 + i * 2 + j = off + (i + 1) * 2 + j by omega]
  exact this
theorem next26_any (w : World) (g : Nat) (S : Nat → Prop) (l : List Pt) (e : Int) (A : Option Addr) (n c : Nat) (h : Psr w g S l e A n c) :
    Calls Tryz.prog 68 #[.pointer (some ⟨g, 0, none⟩)] w fun e' w' => e' = .returned (.string ⟨(nxt l).toArray⟩) ∧ w' = w := by
  have hl := h.row.len
  have hc1 := h.cap.1
  have hc2 := h.cap.2
  have q0 := h.blk.cell 0
  have q1 := h.blk.cell 1
  simp at q0 q1
  cases l with
  | nil =>
    obtain rfl : n = 0 := by simpa using hl.symm
    clear h
    go_enter Tryz.func68, Tryz.ntmps68
    go_wp2_with fail
    go_ret
    exact ⟨rfl, rfl⟩
  | cons p l =>
    have hn : 0 < n := by simp at hl; omega
    obtain ⟨p', b, off, HG, rfl, -, hb, -, f0, f1⟩ := pt_at h.row hn
    have : p' = p := by have := HG.out; simpa using this.symm
    subst this
    have d0 : ((n : Int) == 0) = false := by rw [beq_eq_false_iff_ne]; omega
    have d1 : ¬ n = 0 := by omega
    have d2 : decide (0 < n) = true := by simpa using hn
    have d3 : (0 : Int) < (n : Int) := by omega
    simp only [Nat.zero_mul, Nat.add_zero] at f0 f1
    clear h HG hl
    go_enter Tryz.func68, Tryz.ntmps68
    go_wp2_with fail
    go_ret
    exact ⟨rfl, rfl⟩
/-- what is told where it can not go on -/
def brk (e : Int) (l : List Pt) : List PanicEntry := [{ v := .iface 59 (.int .i64 (posD e l)), recovered := false }]
theorem pan_run (z : Int) (W : World) : (Instr.panic (.iface 59 (.int .i64 z))).run Tryz.prog W = .halt (.panic (.iface 59 (.int .i64 z))) W := by
  simp [Instr.panic, go_sem]
theorem fail26_any (w : World) (g : Nat) (S : Nat → Prop) (l : List Pt) (e : Int) (A : Option Addr) (n c : Nat) (h : Psr w g S l e A n c) :
    Calls Tryz.prog 33 #[.pointer (some ⟨g, 0, none⟩)] w fun e' w' => e' = .panicked (brk e l) ∧ w' = w := by
  have hl := h.row.len
  have hc1 := h.cap.1
  have hc2 := h.cap.2
  have q0 := h.blk.cell 0
  have q1 := h.blk.cell 1
  simp at q0 q1
  have hpn := pan_run
  cases l with
  | nil =>
    obtain rfl : n = 0 := by simpa using hl.symm
    clear h
    go_enter Tryz.func33, Tryz.ntmps33
    go_wp2_with fail
    exact ⟨rfl, rfl, rfl⟩
  | cons p l => 
    have hn : 0 < n := by simp at hl; omega
    obtain ⟨p', b, off, HG, rfl, -, hb, -, f0, f1⟩ := pt_at h.row hn
    have : p' = p := by have := HG.out; simpa using this.symm
    subst this
    have d0 : ((n : Int) == 0) = false := by rw [beq_eq_false_iff_ne]; omega
    have d1 : ¬ n = 0 := by omega
    have d2 : decide (0 < n) = true := by simpa using hn
    have d3 : (0 : Int) < (n : Int) := by omega
    simp only [Nat.zero_mul, Nat.add_zero] at f0 f1
    clear h HG hl
    go_enter Tryz.func33, Tryz.ntmps33
    go_wp2_with fail
    exact ⟨rfl, rfl, rfl⟩
theorem grown_trans {a b c : World} {g : Nat} (h : a.grownBy b (some g)) (k : b.grownBy c (some g)) : a.grownBy c (some g) :=
  ⟨k.os.trans h.os, k.tape.trans h.tape, k.output.trans h.output, Nat.le_trans h.size k.size, fun i hi hne => (k.block i (Nat.lt_of_lt_of_le hi h.size) hne).trans (h.block i hi hne)⟩
theorem grown_of {a b : World} {g : Nat} (k : Below a.heap.size a b) : a.grownBy b (some g) :=
  ⟨k.os, k.tape, k.output, k.size, fun i hi _ => k.block i hi⟩
/-- the parser moves on where all else grows -/
theorem Psr.grown {w w' : World} {g : Nat} {S : Nat → Prop} {l : List Pt} {e : Int} {A : Option Addr} {n c : Nat} (h : Psr w g S l e A n c) (hb : Below w.heap.size w w') : Psr w' g S l e A n c :=
  ⟨h.blk.below hb h.blk.lt, h.row.bel ptP hb, h.cap, h.off, fun W hW => h.env W ((hb.mono (Nat.le_of_lt h.blk.lt)).trans hW)⟩
theorem take26_no (w : World) (g : Nat) (S : Nat → Prop) (l : List Pt) (e : Int) (A : Option Addr) (n c : Nat) (s : List UInt8) (h : Psr w g S l e A n c) (hs : (nxt l == s) = false) :
    Calls Tryz.prog 48 #[.pointer (some ⟨g, 0, none⟩), .string ⟨s.toArray⟩] w fun e' w' => e' = .returned (.bool false) ∧ w' = w := by
  have HC := Lib.hid (next26_any w g S l e A n c h)
  generalize nxt l = x at *
  clear h
  go_enter Tryz.func48, Tryz.ntmps48
  go_wp2_with fail
  (with_reducible refine (HC.out).mono ?_)
  rintro _ w1 ⟨rfl, hw1⟩
  obtain rfl := hw1.symm
  go_wp2_with fail
  go_ret
  exact ⟨rfl, rfl⟩
theorem take26_yes (w : World) (g : Nat) (S : Nat → Prop) (l : List Pt) (e : Int) (A : Option Addr) (n c : Nat) (s : List UInt8) (h : Psr w g S l e A n c) (hs : nxt l = s) (h0 : l ≠ []) :
    Calls Tryz.prog 48 #[.pointer (some ⟨g, 0, none⟩), .string ⟨s.toArray⟩] w fun e' w' => e' = .returned (.bool true) ∧ ∃ A' n' c', Psr w' g S l.tail e A' n' c' ∧ w.grownBy w' (some g) := by
  have HC := Lib.hid (next26_any w g S l e A n c h)
  cases l with
  | nil => exact absurd rfl h0
  | cons p l =>
  have hl := h.row.len
  have hc1 := h.cap.1
  have hc2 := h.cap.2
  have q0 := h.blk.cell 0
  have q1 := h.blk.cell 1
  have qf := h.blk.frozen
  simp at q0 q1
  have hn : 0 < n := by simp at hl; omega
  obtain ⟨p', b, off, HG, rfl, hSb, hb, -, f0, f1⟩ := pt_at h.row hn
  obtain ⟨m, rfl⟩ : ∃ m, n = m + 1 := ⟨n - 1, by omega⟩
  have HT := Lib.hid (pt_tail h.row)
  have HBK := Lib.hid h.blk
  have HOF := Lib.hid h.off
  have HEV := Lib.hid h.env
  have HLT := Lib.hid h.blk.lt
  rw [hs] at HC
  have hsl : (s == s) = true := by simp
  have k1 : (1 : Int) ≤ ((m + 1 : Nat) : Int) := by omega
  have k2 : 1 ≤ m + 1 := by omega
  have HLL := Lib.hid (show l.length = m by simpa using hl)
  clear h HG hl hs f0 f1 h0
  by_cases hc : c = 1
  · subst hc
    obtain rfl : m = 0 := by omega
    obtain rfl : l = [] := List.eq_nil_of_length_eq_zero HLL.out
    go_enter Tryz.func48, Tryz.ntmps48
    go_wp2_with fail
    (with_reducible refine (HC.out).mono ?_)
    rintro _ w1 ⟨rfl, hw1⟩
    obtain rfl := hw1.symm
    go_wp2_with fail
    go_ret
    exact ⟨rfl, some ⟨b, off, none⟩, 0, 0, ⟨by simpa using HBK.out.set_ 0 (.slice (some ⟨b, off, none⟩) 0 0), RwA.nil _, ⟨Nat.le_refl _, by omega⟩, HOF.out, env_set HEV.out HLT.out⟩, only_setCell (World.grownBy.refl _ _) (.inl rfl) _⟩
  · go_enter Tryz.func48, Tryz.ntmps48
    go_wp2_with fail
    (with_reducible refine (HC.out).mono ?_)
    rintro _ w1 ⟨rfl, hw1⟩
    obtain rfl := hw1.symm
    go_wp2_with fail
    go_ret
    exact ⟨rfl, some ⟨b, off + 2, none⟩, m, c - 1, ⟨by simpa using HBK.out.set_ 0 (.slice (some ⟨b, off + 2, none⟩) m (c - 1)), HT.out.grown ptP (only_setCell (World.grownBy.refl _ _) (.inl rfl) _) (fun g' hg' => by injection hg' with hg'; subst hg'; exact HOF.out), ⟨by omega, by omega⟩, HOF.out, env_set HEV.out HLT.out⟩, only_setCell (World.grownBy.refl _ _) (.inl rfl) _⟩
end Go.Proofs.YtjjlmkleidbmhaaGreatDoor
end
section
namespace Go.Proofs.YtjjlmkleidbmhaaGreatDoor
open Go.RowKit Go.Nst
set_option maxRecDepth 100000
set_option linter.unusedVariables false
set_option linter.unusedSimpArgs false

theorem res_facts {w : World} {g : Nat} {v0 v1 v2 v3 : Value} (h : Blk w g 25 #[v0, v1, v2, v3]) : w.cell? ⟨g, 0, none⟩ = some v0 ∧ w.cell? ⟨g, 1, none⟩ = some v1 ∧ w.cell? ⟨g, 2, none⟩ = some v2 ∧ w.cell? ⟨g, 3, none⟩ = some v3 ∧ g < w.heap.size ∧ ∀ i, w.frozen? ⟨g, i, none⟩ = false := ⟨h.cell 0, h.cell 1, h.cell 2, h.cell 3, h.lt, h.frozen⟩
theorem set4 {w : World} {g : Nat} {cs : Array Value} (h : Blk w g 25 cs) (v0 v1 v2 v3 : Value) : Blk ((((w.setCell ⟨g, 0, none⟩ v0).setCell ⟨g, 1, none⟩ v1).setCell ⟨g, 2, none⟩ v2).setCell ⟨g, 3, none⟩ v3) g 25 ((((cs.setIfInBounds 0 v0).setIfInBounds 1 v1).setIfInBounds 2 v2).setIfInBounds 3 v3) := (((h.set_ 0 v0).set_ 1 v1).set_ 2 v2).set_ 3 v3
theorem bel4 {B : Nat} {a w : World} (h : Below B a w) {g : Nat} (hg : B ≤ g) (v0 v1 v2 v3 : Value) : Below B a ((((w.setCell ⟨g, 0, none⟩ v0).setCell ⟨g, 1, none⟩ v1).setCell ⟨g, 2, none⟩ v2).setCell ⟨g, 3, none⟩ v3) := (((h.setCell (p := ⟨g, 0, none⟩) hg v0).setCell (p := ⟨g, 1, none⟩) hg v1).setCell (p := ⟨g, 2, none⟩) hg v2).setCell (p := ⟨g, 3, none⟩) hg v3
theorem heap_set4 {w : World} {g b : Nat} (h : b ≠ g) (v0 v1 v2 v3 : Value) : ((((w.setCell ⟨g, 0, none⟩ v0).setCell ⟨g, 1, none⟩ v1).setCell ⟨g, 2, none⟩ v2).setCell ⟨g, 3, none⟩ v3).heap[b]? = w.heap[b]? :=
  (Below.heap_setCell _ ⟨g, 3, none⟩ v3 b h).trans ((Below.heap_setCell _ ⟨g, 2, none⟩ v2 b h).trans ((Below.heap_setCell _ ⟨g, 1, none⟩ v1 b h).trans (Below.heap_setCell w ⟨g, 0, none⟩ v0 b h)))
theorem QAt.set4 {w : World} {S : Nat → Prop} {v : Array Value} {q : Qy} {g : Nat} (h : QAt w S v q) (hg : ¬ S g) (v0 v1 v2 v3 : Value) : QAt ((((w.setCell ⟨g, 0, none⟩ v0).setCell ⟨g, 1, none⟩ v1).setCell ⟨g, 2, none⟩ v2).setCell ⟨g, 3, none⟩ v3) S v q :=
  h.keep (fun b hb _ => heap_set4 (g := g) (b := b) (fun e => hg (by rw [← e]; exact hb)) v0 v1 v2 v3) (by simp [World.setCell]) (fun _ h _ => h)
theorem QsAt.set4 {w : World} {S : Nat → Prop} {A : Option Addr} {k : Nat} {l : List Qy} {g : Nat} (h : QsAt w S A k l) (hg : ¬ S g) (v0 v1 v2 v3 : Value) : QsAt ((((w.setCell ⟨g, 0, none⟩ v0).setCell ⟨g, 1, none⟩ v1).setCell ⟨g, 2, none⟩ v2).setCell ⟨g, 3, none⟩ v3) S A k l :=
  h.keep (fun b hb _ => heap_set4 (g := g) (b := b) (fun e => hg (by rw [← e]; exact hb)) v0 v1 v2 v3) (by simp [World.setCell]) (fun _ h _ => h)

end Go.Proofs.YtjjlmkleidbmhaaGreatDoor
end
section
namespace Go.Proofs.YtjjlmkleidbmhaaGreatDoor
open Go.ChangeShapes Go.WideShapes Go.ChangeAt Go.Deep
open Go.RowKit Go.Nst
set_option maxRecDepth 100000
set_option linter.unusedVariables false
set_option linter.unusedSimpArgs false

theorem Oq.lit {w : World} {S : Nat → Prop} {vs : Array Value} {q : Qy} {base g : Nat} (h : QAt w S vs q) (hb : base ≤ w.heap.size) (hg : w.heap.size = g) : Oq (w.alloc (.cells vs 25)) base S (some ⟨g, 0, none⟩) 1 1 [q] := by
  subst hg
  refine ⟨_, World.ownsRow_lit w vs 1 hb (by unfold maxLen; omega) (by rw [h.size4]), rfl, fun _ => vs, fun i j u hi hu => ?_, fun i x hi => ?_⟩
  · obtain rfl : i = 0 := by omega
    simpa using hu
  · match i, hi with
    | 0, hi =>
      have hi : x = q := by simpa using hi.symm
      subst hi
      exact (h.wide (S' := fun b => S b ∧ b < w.heap.size) (fun b hb hlt => ⟨hb, hlt⟩)).bel (bel_alloc (Below.refl _ _) _) |>.wide (fun b hb _ => ⟨hb.1, by
        have hlt := hb.2
        intro he
        have he : b = w.heap.size := by simpa [Value.ownBlock] using he
        omega⟩)
    | k + 1, hi => simp at hi
theorem Oq.grown {w w' : World} {base n c g : Nat} {S : Nat → Prop} {A : Option Addr} {l : List Qy} (h : Oq w base S A n c l) (hg : w.grownBy w' (some g)) (hS : ¬ S g) (hb : g < base) : Oq w' base S A n c l := by
  have hlt := h.lt
  obtain ⟨xs, h1, h2, V, h3, h4⟩ := h
  exact ⟨xs, own_only h1 hg (fun k hk e => by injection e with e; subst e; have := (hlt _ hk).1; omega), h2, V, h3, fun i q hi => (h4 i q hi).grown hg (fun k hk => by injection hk with hk; subst hk; exact fun hh => hS hh.1)⟩
set_option maxHeartbeats 1000000 in
theorem several26_any (o : Int) (l : List Qy) (A : Option Addr) (n c : Nat) (w : World) (S : Nat → Prop) (ho : i64P o) (hk : QsAt w S A n l) (hn : n ≤ c ∧ c ≤ 9223372036854775807) (h0 : l ≠ []) :
    Calls Tryz.prog 49 #[.int .i64 o, .slice A n c] w (RetQ w S (svl o l)) := by
  have hln := hk.1
  have HKK := Lib.hid hk
  have hx := Blk.new w 25 #[.int .i64 0, .int .i64 0, .string ⟨#[]⟩, .slice none 0 0]
  have b1 := bel_alloc (Below.refl w.heap.size w) (.cells #[.int .i64 0, .int .i64 0, .string ⟨#[]⟩, .slice none 0 0] 25)
  have hk1 := (hk.wide (S' := fun b => S b ∧ b < w.heap.size) (fun b hb hlt => ⟨hb, hlt⟩)).bel b1
  have hzf := hx.frozen
  have z0 := hx.cell 0
  have z1 := hx.cell 1
  have z2 := hx.cell 2
  have z3 := hx.cell 3
  simp at z0 z1 z2 z3
  obtain ⟨hn1, hn2⟩ := hn
  by_cases h1 : n = 1
  · subst h1
    obtain ⟨q, rfl⟩ : ∃ q, l = [q] := by
      match l, hln with
      | [q], _ => exact ⟨q, rfl⟩
    obtain ⟨q', B, c', b, off, HG, rfl, hS, hbs, HQ, g1, g2, g3, g4, g5, f0, f1, f2, f3⟩ := hk1.at (show 0 < 1 by omega)
    have : q' = q := by have := HG.out; simpa using this.symm
    subst this
    simp only [Nat.zero_mul, Nat.add_zero] at f0 f1 f2 f3
    have HNF := Lib.hid HQ.out
    clear hk hk1 HG hx b1 hS h0 HKK HQ
    go_enter Tryz.func49, Tryz.ntmps49
    go_wp2_with fail
    have y := Blk.new w 25 #[.int .i64 q'.op, .int .i64 q'.n, .string ⟨q'.s.toArray⟩, .slice B q'.kids.length c']
    have y0 := y.cell 0
    have y1 := y.cell 1
    have y2 := y.cell 2
    have y3 := y.cell 3
    simp at y0 y1 y2 y3
    exact bodyPost_ret (v := .agg #[.int .i64 q'.op, .int .i64 q'.n, .string ⟨q'.s.toArray⟩, .slice B q'.kids.length c']) (by simp [results, Tryz.results49, go_sem, y0, y1, y2, y3]) rfl
      ⟨_, rfl, HNF.out.keep (fun b' hb _ => ((bel_alloc (Below.refl w.heap.size w) _).block b' hb.2).trans ((bel_alloc (Below.refl w.heap.size w) _).block b' hb.2).symm) (by simp) (fun b hb _ => Or.inl hb.1), bel_alloc (Below.refl _ _) _⟩
  · have h2 : 2 ≤ l.length := by
      have : l.length ≠ 0 := fun e => h0 (List.eq_nil_of_length_eq_zero e)
      omega
    have d1 : ((n : Int) == 1) = false := by rw [beq_eq_false_iff_ne]; omega
    have d2 : ¬ n = 1 := h1
    have HV : Hid (svl o l = ⟨o, 0, [], l⟩) := Lib.hid (svl_many o h2)
    clear hk hk1 hx b1 h0 h1 h2
    go_enter Tryz.func49, Tryz.ntmps49
    go_wp2_with fail
    have y := Blk.new w 25 #[.int .i64 o, .int .i64 0, .string ⟨#[]⟩, .slice A n c]
    have y0 := y.cell 0
    have y1 := y.cell 1
    have y2 := y.cell 2
    have y3 := y.cell 3
    simp at y0 y1 y2 y3
    refine bodyPost_ret (v := .agg #[.int .i64 o, .int .i64 0, .string ⟨#[]⟩, .slice A n c]) (by simp [results, Tryz.results49, go_sem, y0, y1, y2, y3]) rfl
      ⟨_, rfl, ?_, bel_alloc (Below.refl _ _) _⟩
    rw [HV.out]
    have HK1 := (HKK.out.wide (S' := fun b => S b ∧ b < w.heap.size) (fun b hb hlt => ⟨hb, hlt⟩)).bel (bel_alloc (Below.refl w.heap.size w) (.cells #[.int .i64 o, .int .i64 0, .string ⟨#[]⟩, .slice A n c] 25))
    exact (QAt.make (s := []) ho (i64P_lit (z := 0) (by omega)) (by simp) ⟨hn1, hn2⟩ HK1).wide (fun b hb _ => .inl hb.1)
/-- what comes of the parser's methods -/
def RetPr (w : World) (g : Nat) (S : Nat → Prop) (en : Int) (r : Rs) (e : Ending) (w' : World) : Prop := match r with
  | .ok q r => ∃ vs A n c, e = .returned (.agg vs) ∧ QAt w' (fun b => w.heap.size ≤ b) vs q ∧ Psr w' g S r en A n c ∧ w.grownBy w' (some g)
  | .bad r => e = .panicked (brk en r) ∧ w.grownBy w' (some g)
/-- a method of the parser's, for so many parts at the most -/
def MethP (f : FuncId) (h : List Pt → Rs) (m : Nat) : Prop := ∀ (l : List Pt) (w : World) (g : Nat) (S : Nat → Prop) (en : Int) (A : Option Addr) (n c : Nat), l.length ≤ m → Psr w g S l en A n c → Calls Tryz.prog f #[.pointer (some ⟨g, 0, none⟩)] w (RetPr w g S en (h l))
end Go.Proofs.YtjjlmkleidbmhaaGreatDoor
end
