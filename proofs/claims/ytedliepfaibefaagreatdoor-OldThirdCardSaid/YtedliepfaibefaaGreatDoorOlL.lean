/-
  Second of the first format; Second.
-/
import Derived.Test.YtedliepfaibefaaGreatDoorOlK
namespace Go.Proofs.YtedliepfaibefaaGreatDoor
open Go.RowKit Go.Nst
set_option maxRecDepth 100000
set_option linter.unusedVariables false
set_option linter.unusedSimpArgs false

theorem oneO_len (k a b n : Int) (s t : List UInt8) : (oneO k a b n s t).length ≤ 2 := by
  unfold oneO
  (repeat' split) <;> simp
set_option maxHeartbeats 4000000 in
theorem second_one (k a b n : Int) (s t : List UInt8) (w : World) (hs : s.length ≤ 10000) (ht : t.length ≤ 10000) (hN : Nms w) (hok : Ol.ok ⟨1, k, a, b, n, s, t⟩ = true) : Calls Tryz.prog 13 #[.agg (OC 1 k a b n s t)] w (RetOl w (oneO k a b n s t).length (olsC (oneO k a b n s t))) := by
  have HO := Lib.hid (fun W h => of_any 1 k a b n s t W hs ht h)
  have HX := Lib.hid (fun W => oneNext_any 1 k a b n s t W hs ht)
  have HN := Lib.hid (hN.below (bel_alloc (Below.refl w.heap.size w) (.cells (OC 1 k a b n s t) 25)))
  have B0 := bel_alloc (Below.refl w.heap.size w) (.cells (OC 1 k a b n s t) 25)
  have hL2 := oneO_len k a b n s t
  unfold ofL at HO
  rw [hok, if_pos rfl, if_pos rfl] at HO
  generalize oneO k a b n s t = L at *
  simp only [OC, lfOne] at *
  simp only [List.length_cons, List.length_nil, Nat.zero_add] at HO
  clear hok hN
  go_enter Tryz.func13, Tryz.ntmps13
  go_wp2_with fail
  (with_reducible refine (HO.out _ HN.out).mono ?_)
  rintro e w1 ⟨A1, c1, rfl, ho1, hb1⟩
  have B1 := bel_step B0 hb1
  obtain ⟨g, rfl, hg1, hg2, _⟩ := own_where ho1 (by omega)
  have hc := World.ownsRow.cells (g := g) ho1 rfl 0 _ rfl
  rw [add_lit] at hc
  simp at hc
  have HC0 := Lib.hid hc
  clear hb1 hc
  go_wp2_with fail
  go_loopw [3, 13] (fun y x wr => Below w1.heap.size w1 wr ∧ ((x = .int .i64 0 ∧ y = .slice none 0 0) ∨ (x = .int .i64 1 ∧ ∃ A c, y = .slice A L.length c ∧ wr.ownsRow w.heap.size 25 7 (.slice A L.length c) L.length (olsC L)))) (fun _ x _ => (1 - intOf x).toNat)
  case atStart => exact ⟨Below.refl _ _, .inl ⟨rfl, rfl⟩⟩
  case round =>
    obtain ⟨hbw, hrel⟩ := hrel
    have hsz := B1.size
    have hsw := hbw.size
    rcases hrel with ⟨rfl, rfl⟩ | ⟨rfl, A, c, rfl, hrow⟩
    · have hc := (hbw.cell (p := ⟨g, 0, none⟩) hg2).trans HC0.out
      have ta := ta_one
      have me := me_one
      have B2 := bel_alloc hbw (.cells #[.int .i64 0, .int .i64 0, .int .i64 0, .int .i64 0, .int .i64 0, .string ⟨#[]⟩, .string ⟨#[]⟩] 79)
      go_wp2_with fail
      (with_reducible refine (HX.out _).mono ?_)
      rintro e w2 ⟨A2, c2, rfl, ho2, hb2⟩
      have B3 := bel_step B2 hb2
      have hs3 := B3.size
      have HR := Lib.hid (Rw.of_own ho2)
      clear hb2 hc
      go_wp2_with fail
      go_loopw [3, 30] (fun y x wr => ∃ (j : Nat) (A : Option Addr) (c : Nat), y = .slice A j c ∧ x = .int .i64 (j : Int) ∧ j ≤ L.length ∧ Below w2.heap.size w2 wr ∧ wr.ownsRow w2.heap.size 25 7 (.slice A j c) j (olsC (L.take j))) (fun _ x _ => L.length - (intOf x).toNat)
      case atStart => exact ⟨0, none, 0, rfl, rfl, by omega, Below.refl _ _, World.ownsRow_nil _ _ _ _⟩
      case round =>
        obtain ⟨j, A, c, rfl, rfl, hj, hb4, hrow⟩ := hrel
        have hb5 := bel_step B3 hb4
        have hs5 := hb5.size
        have hs4 := hb4.size
        by_cases hlt : j < L.length
        · obtain ⟨o, ho⟩ : ∃ o, L[j]? = some o := ⟨_, List.getElem?_eq_getElem hlt⟩
          have htk := Lib.hid (show olsC (L.take (j + 1)) = olsC (L.take j) ++ olC o by rw [List.take_add_one, ho]; exact olsC_snoc _ _)
          rcases HR.out with h0 | ⟨g2, rfl, hg2', hcl⟩
          · omega
          have hc0 := hcl j (lfO o) (by rw [List.getElem?_map, ho]; rfl)
          have hc := (hb4.cell (p := ⟨g2, j, none⟩) hg2').trans hc0
          simp only [lfO, lfTwo, OC] at hc
          obtain ⟨ov, ok, oa, ob, on, os, ot⟩ := o
          simp only at hc
          have ta2 := ta_two_p
          have hR := lit_reads wr 25 #[.int .i64 ov, .int .i64 ok, .int .i64 oa, .int .i64 ob, .int .i64 on, .string ⟨os.toArray⟩, .string ⟨ot.toArray⟩] 7 1 wr.heap.size rfl rfl
          have hone := olC_one ⟨ov, ok, oa, ob, on, os, ot⟩
          have B6 := (Below.refl wr.heap.size wr).alloc (Nat.le_refl _) (.cells #[.int .i64 ov, .int .i64 ok, .int .i64 oa, .int .i64 ob, .int .i64 on, .string ⟨os.toArray⟩, .string ⟨ot.toArray⟩] 25)
          have hrow6 := own_below hrow B6
          clear hc0 hcl ho hrow
          go_wp2_with (at_builtin; refine wpList_app _ iOlds rfl rfl rfl hrow6 rfl hR hone (by unfold maxLen; omega) (by omega) (by simp; omega) ?_; intro A' c' w' h2 h3 _)
          have B7 : Below w2.heap.size w2 w' := (bel_step hb4 B6).trans ((Below.refl _ _).grown h3 (by simp; omega) (fun k hk => by have := (World.ownsRow.lt hrow6 k hk).1; omega))
          go_roundw
          case rel => exact ⟨j + 1, A', c', rfl, by go_num, by omega, B7, by rw [htk.out]; exact h2⟩
          case measure => simp [intOf]; omega
        · obtain rfl : j = L.length := by omega
          rw [List.take_of_length_le (Nat.le_refl _)] at hrow
          go_wp2_with fail
          go_roundw
          case rel => exact ⟨hb5, .inr ⟨rfl, A, c, rfl, own_mono hrow (by omega)⟩⟩
          case measure => simp [intOf]
    · go_wp2_with fail
      go_ret
      exact RetRow.of rfl hrow (bel_step B1 hbw)
theorem second_any (o : Ol) (w : World) (hs : o.s.length ≤ 10000) (ht : o.t.length ≤ 10000) (hN : Nms w) : Calls Tryz.prog 13 #[.agg (OC o.v o.k o.a o.b o.n o.s o.t)] w (RetOl w (secondO o).length (olsC (secondO o))) := by
  obtain ⟨v, k, a, b, n, s, t⟩ := o
  simp only at hs ht ⊢
  unfold secondO
  cases hok : Ol.ok ⟨v, k, a, b, n, s, t⟩ with
  | false =>
    rw [if_neg (by decide)]
    exact second_no v k a b n s t w hs ht hN hok
  | true =>
    rw [if_pos rfl]
    by_cases h1 : v = 1
    · rw [if_pos h1]
      subst h1
      exact second_one k a b n s t w hs ht hN hok
    · rw [if_neg h1]
      exact second_two v k a b n s t w hs ht hN hok h1
theorem secondO_len (o : Ol) : (secondO o).length ≤ 2 := by
  unfold secondO
  split
  · split
    · exact oneO_len _ _ _ _ _ _
    · simp
  · simp
end Go.Proofs.YtedliepfaibefaaGreatDoor
