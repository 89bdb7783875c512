/-
  The reference's Clean; Fold.
-/
import Derived.Test.YtleachcokgjocaaUtfI
namespace Go.Proofs.Ytleachcokgjocaa
open Go.RowKit Go.Nst
set_option maxRecDepth 100000
set_option linter.unusedVariables false
set_option linter.unusedSimpArgs false

/-- a rune of the row is written anew -/
theorem On.set_ {w : World} {base n c : Nat} {A : Option Addr} {l : List Int} (h : On w base A n c l) {g k : Nat} (hA : A = some ⟨g, 0, none⟩) (hk : k < n) (z : Int) : On (w.setCell ⟨g, k, none⟩ (.int .i32 z)) base A n c (l.set k z) := by
  subst hA
  have hl := h.rn.len
  refine ⟨by rw [rv_len, List.length_set]; omega, ?_⟩
  rcases h.2 with ⟨e, rfl⟩ | ⟨g', cap, cur, hv, hg, hh, hnc, hcm, hcs, htake⟩
  · cases e
  · injection hv with hv1 hv2 hv3
    injection hv1 with hv1
    injection hv1 with hv1
    subst hv1
    subst hv3
    refine .inr ⟨g, c, cur.setIfInBounds k (.int .i32 z), rfl, hg, ?_, hnc, hcm, by simpa using hcs, ?_⟩
    · simp [World.setCell, Array.getElem?_modify, hh]
    · have : (cur.setIfInBounds k (.int .i32 z)).toList = cur.toList.set k (.int .i32 z) := by simp
      rw [this, List.take_set, htake]
      simp [rv, List.map_set]
theorem On.where_ {w : World} {base n c : Nat} {A : Option Addr} {l : List Int} (h : On w base A n c l) (hn : 0 < n) : ∃ g, A = some ⟨g, 0, none⟩ ∧ base ≤ g ∧ g < w.heap.size ∧ ∀ i, w.frozen? ⟨g, i, none⟩ = false := by
  rcases h.2 with ⟨e, rfl⟩ | ⟨g, cap, cur, hv, hg, hh, r⟩
  · omega
  · injection hv with hv1 hv2 hv3
    exact ⟨g, hv1, hg, (Array.getElem?_eq_some_iff.1 hh).1, fun i => by simp [World.frozen?, hh]⟩

theorem cleanG_take {l : List Int} {k : Nat} {z : Int} {st : List Int × Bool} {fin : List Int} (h : fin = cleanG st (l.drop k)) (hz : l[k]? = some z) : fin = cleanG (cleanS st z) (l.drop (k + 1)) := by
  rw [h, List.drop_eq_getElem_cons (List.getElem?_eq_some_iff.1 hz).1, (List.getElem?_eq_some_iff.1 hz).2, cleanG_cons]
theorem cleanG_done {l : List Int} {k : Nat} {st : List Int × Bool} {fin : List Int} (h : fin = cleanG st (l.drop k)) (hk : l.length ≤ k) : fin = st.1 := by
  rw [h, List.drop_of_length_le hk]
  rfl
theorem runesI_le (l : List UInt8) : (runesI l).length ≤ l.length := by rw [runesI_len]; exact runesL_le l
theorem runesI_32 (l : List UInt8) : I32 (runesI l) := fun z hz => by have := runes_ok l z hz; omega
theorem ok_32 {l : List Int} (h : Okr l) : I32 l := fun z hz => by have := h z hz; omega

set_option maxHeartbeats 4000000 in
theorem refClean_any (s : ByteArray) (w : World) (hS : s.size ≤ 100000) : Calls Try.prog 20 #[.string s] w (RetS w (cleanT (bl s))) := by
  have hbl := bl_len s
  have hrl := runesI_le (bl s)
  have h32 := ok_32 (clean_ok _ (runes_ok (bl s)))
  unfold cleanT
  have HRN := Lib.hid (refRunes_any s w (by omega))
  generalize hrs : runesI (bl s) = rs at *
  have HF : ∃ fin, cleanR rs = fin := ⟨_, rfl⟩
  obtain ⟨fin, hfin⟩ := HF
  have HT : Hid (fin = cleanG ([], false) (rs.drop 0)) := Lib.hid hfin.symm
  rw [hfin] at h32 ⊢
  have HI := Lib.hid h32
  clear hfin h32 hrs
  go_enter Try.func20, Try.ntmps20
  go_wp2_with fail
  refine HRN.out.mono ?_
  rintro e w1 ⟨A1, n1, c1, rfl, hO1, hb1⟩
  have hR := hO1.rn
  have hlen := hR.len
  go_wp2_with fail
  go_loopw [4, 5, 6] (fun v t i wr => ∃ (k m : Nat) (A2 : Option Addr) (c2 : Nat) (out : List Int) (wait : Bool), v = .slice A2 m c2 ∧ t = .bool wait ∧ i = .int .i64 (k : Int) ∧ k ≤ n1 ∧ m ≤ 2 * k ∧ On wr w1.heap.size A2 m c2 out ∧ Below w1.heap.size w1 wr ∧ Hid (fin = cleanG (out, wait) (rs.drop k))) (fun _ _ i _ => n1 - (intOf i).toNat)
  case atStart => exact ⟨0, 0, none, 0, [], false, rfl, rfl, rfl, by omega, by omega, On.nil, Below.refl _ _, HT⟩
  case round =>
    obtain ⟨k, m, A2, c2, out, wait, rfl, rfl, rfl, hk, hm, hO, hbw, HR⟩ := hrel
    have hbs := hbw.size
    by_cases hlt : k < n1
    · obtain ⟨z, b, off, rfl, hz, hb, hc⟩ := Rn.at (hR.below hbw) hlt
      have HN := Lib.hid (cleanG_take HR.out hz.out)
      unfold cleanS at HN
      have hO3 := fun W (hbW : Below wr.heap.size wr W) => hO.below hbW
      by_cases b1 : blankB z = true
      · have HC := Lib.hid (refBlank_yes z wr b1)
        rw [if_pos b1] at HN
        have hol := hO.rn.len
        have hwt : decide (0 < m) = decide (0 < out.length) := by rw [hol]
        have HN : Hid (fin = cleanG (out, decide (0 < m)) (rs.drop (k + 1))) := Lib.hid (by rw [hwt]; exact HN.out)
        clear hwt b1
        by_cases hm0 : 0 < m
        all_goals
          first | rw [show decide (0 < m) = true from decide_eq_true hm0] at HN | rw [show decide (0 < m) = false from decide_eq_false hm0] at HN
          go_wp2_with fail
          refine HC.out.mono ?_
          rintro e w2 ⟨rfl, rfl⟩
          go_wp2_with fail
          go_roundw
          case rel => exact ⟨k + 1, m, A2, c2, out, _, rfl, rfl, by go_num, by omega, by omega, hO, hbw, HN⟩
          case measure => simp [intOf]; omega
      · rw [if_neg b1] at HN
        have HC := Lib.hid (refBlank_no z wr (by simpa using b1))
        clear b1
        rcases ctrl_split (c := z) with ⟨h1, h2⟩ | ⟨h1, h3, h2⟩ | ⟨h1, h3, h4, h2⟩ | ⟨h1, h3, h4, h2⟩
        · rw [h2, if_pos rfl] at HN
          clear h2
          go_wp2_with fail
          refine HC.out.mono ?_
          rintro e w2 ⟨rfl, rfl⟩
          go_wp2_with fail
          go_roundw
          case rel => exact ⟨k + 1, m, A2, c2, out, wait, rfl, rfl, by go_num, by omega, by omega, hO, hbw, HN⟩
          case measure => simp [intOf]; omega
        · rw [h2, if_neg (by decide)] at HN
          clear h2
          have hO32 := hO.below (bel_alloc (Below.refl _ _) (.cells #[.int .i32 32] 21))
          have hB32 := Rn.const wr [32] #[.int .i32 32] 21 (0, 0) 1 rfl rfl
          have hOz := hO.below (bel_alloc (Below.refl _ _) (.cells #[.int .i32 z] 21))
          have hBz := Rn.const wr [z] #[.int .i32 z] 21 (0, 0) 1 rfl rfl
          cases wait with
          | false =>
            rw [if_neg (by simp)] at HN
            go_wp2_with fail
            refine HC.out.mono ?_
            rintro e w2 ⟨rfl, rfl⟩
            go_wp2_with (at_builtin; refine wpList_appR _ rfl rfl rfl hOz rfl hBz (m + 1) (out ++ [z]) rfl rfl (by omega) (by simp; omega) ?_; intro A' c' w' ho hb)
            go_roundw
            case rel => exact ⟨k + 1, m + 1, A', c', out ++ [z], false, rfl, rfl, by go_num, by omega, by omega, ho, (hbw.alloc hbs _).trans hb, HN⟩
            case measure => simp [intOf]; omega
          | true =>
            rw [if_pos rfl] at HN
            go_wp2_with fail
            refine HC.out.mono ?_
            rintro e w2 ⟨rfl, rfl⟩
            go_wp2_with (first
              | (at_builtin; have _t := hO32; refine wpList_appR _ rfl rfl rfl hO32 rfl hB32 (m + 1) (out ++ [32]) rfl rfl (by omega) (by simp; omega) ?_; intro A' c' w' ho hb; clear hO32 _t hOz hBz; have hbx := (hbw.alloc hbs _).trans hb; have hbxs := hbx.size; have hO4 := ho.below (bel_alloc (Below.refl _ _) (.cells #[.int .i32 z] 21)); have hB4 := Rn.const w' [z] #[.int .i32 z] 21 (0, 0) 1 rfl rfl)
              | (at_builtin; refine wpList_appR _ rfl rfl rfl hO4 rfl hB4 (m + 1 + 1) (out ++ [32] ++ [z]) rfl rfl (by omega) (by simp; omega) ?_; intro A'' c'' w'' ho2 hb2))
            go_roundw
            case rel => exact ⟨k + 1, m + 1 + 1, A'', c'', out ++ [32] ++ [z], false, rfl, rfl, by go_num, by omega, by omega, ho2, (hbx.alloc hbxs _).trans hb2, HN⟩
            case measure => simp [intOf]; omega
        · rw [h2, if_pos rfl] at HN
          clear h2
          go_wp2_with fail
          refine HC.out.mono ?_
          rintro e w2 ⟨rfl, rfl⟩
          go_wp2_with fail
          go_roundw
          case rel => exact ⟨k + 1, m, A2, c2, out, wait, rfl, rfl, by go_num, by omega, by omega, hO, hbw, HN⟩
          case measure => simp [intOf]; omega
        · rw [h2, if_neg (by decide)] at HN
          clear h2
          have hO32 := hO.below (bel_alloc (Below.refl _ _) (.cells #[.int .i32 32] 21))
          have hB32 := Rn.const wr [32] #[.int .i32 32] 21 (0, 0) 1 rfl rfl
          have hOz := hO.below (bel_alloc (Below.refl _ _) (.cells #[.int .i32 z] 21))
          have hBz := Rn.const wr [z] #[.int .i32 z] 21 (0, 0) 1 rfl rfl
          cases wait with
          | false =>
            rw [if_neg (by simp)] at HN
            go_wp2_with fail
            refine HC.out.mono ?_
            rintro e w2 ⟨rfl, rfl⟩
            go_wp2_with (at_builtin; refine wpList_appR _ rfl rfl rfl hOz rfl hBz (m + 1) (out ++ [z]) rfl rfl (by omega) (by simp; omega) ?_; intro A' c' w' ho hb)
            go_roundw
            case rel => exact ⟨k + 1, m + 1, A', c', out ++ [z], false, rfl, rfl, by go_num, by omega, by omega, ho, (hbw.alloc hbs _).trans hb, HN⟩
            case measure => simp [intOf]; omega
          | true =>
            rw [if_pos rfl] at HN
            go_wp2_with fail
            refine HC.out.mono ?_
            rintro e w2 ⟨rfl, rfl⟩
            go_wp2_with (first
              | (at_builtin; have _t := hO32; refine wpList_appR _ rfl rfl rfl hO32 rfl hB32 (m + 1) (out ++ [32]) rfl rfl (by omega) (by simp; omega) ?_; intro A' c' w' ho hb; clear hO32 _t hOz hBz; have hbx := (hbw.alloc hbs _).trans hb; have hbxs := hbx.size; have hO4 := ho.below (bel_alloc (Below.refl _ _) (.cells #[.int .i32 z] 21)); have hB4 := Rn.const w' [z] #[.int .i32 z] 21 (0, 0) 1 rfl rfl)
              | (at_builtin; refine wpList_appR _ rfl rfl rfl hO4 rfl hB4 (m + 1 + 1) (out ++ [32] ++ [z]) rfl rfl (by omega) (by simp; omega) ?_; intro A'' c'' w'' ho2 hb2))
            go_roundw
            case rel => exact ⟨k + 1, m + 1 + 1, A'', c'', out ++ [32] ++ [z], false, rfl, rfl, by go_num, by omega, by omega, ho2, (hbx.alloc hbxs _).trans hb2, HN⟩
            case measure => simp [intOf]; omega
    · have HE : Hid (fin = out) := Lib.hid (cleanG_done HR.out (by omega))
      have HC := Lib.hid (refPut5_any A2 m c2 out wr hO.rn (by rw [← HE.out]; exact HI.out) (by omega))
      go_wp2_with fail
      refine HC.out.mono ?_
      rintro e w2 ⟨rfl, hb2⟩
      go_wp2_with fail
      go_ret
      rw [HE.out]
      exact ⟨rfl, bel_step (bel_step hb1 hbw) hb2⟩
end Go.Proofs.Ytleachcokgjocaa
