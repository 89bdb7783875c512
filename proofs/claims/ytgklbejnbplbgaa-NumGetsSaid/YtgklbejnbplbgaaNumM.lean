/-
  NumPuts, NumGets: the walks.
-/
import Derived.Test.YtgklbejnbplbgaaNumL
import Derived.Test.YtgklbejnbplbgaaNumH
namespace Go.Proofs.Ytgklbejnbplbgaa
open Go.RowKit Go.Nst
set_option maxRecDepth 100000
set_option linter.unusedVariables false

theorem refMay_yes (n : Int) (w : World) (h : mayB n = true) : Calls Try.prog 9 #[.int .i64 n] w fun e w' => e = .returned (.bool true) ∧ w = w' := by
  have := refMay_any n w
  rw [h] at this
  exact this
theorem refMay_not (n : Int) (w : World) (h : mayB n = false) : Calls Try.prog 9 #[.int .i64 n] w fun e w' => e = .returned (.bool false) ∧ w = w' := by
  have := refMay_any n w
  rw [h] at this
  exact this

set_option maxHeartbeats 2000000 in
theorem numPuts_walk (n : Int) (B : Option Addr) (m d : Nat) (lb : List UInt8) (w : World) (hB : Bs w B m lb) (hm : m ≤ 9223372036854775807) :
    Calls Try.prog 3 #[.int .i64 n, .slice B m d] w (RetTrue w) := by
  by_cases hm3 : 1000 < m
  · go_enter Try.func3, Try.ntmps3
    go_wp2_with fail
    refine (lives01_any w).mono ?_
    rintro e w1 ⟨rfl, hb⟩
    go_wp2_with fail
    go_ret
    exact ⟨rfl, hb⟩
  have d1 : decide (1000 < (m : Int)) = false := by simp; omega
  cases hmay : mayB n with
  | false =>
    have Hp := Lib.hid (put_no n w hmay)
    have Hr := Lib.hid (fun W => refMay_not n W hmay)
    clear hmay
    go_enter Try.func3, Try.ntmps3
    go_wp2_with fail
    refine Hp.out.mono ?_
    rintro e w1 ⟨rfl, rfl⟩
    go_wp2_with fail
    refine (lives01_any w).mono ?_
    rintro e w2 ⟨rfl, hb2⟩
    go_wp2_with fail
    refine (Hr.out w2).mono ?_
    rintro e w3 ⟨rfl, rfl⟩
    go_wp2_with fail
    go_ret
    exact ⟨rfl, hb2⟩
  | true =>
    have Hp := Lib.hid (put_yes n w hmay)
    have Hr := Lib.hid (fun W => refMay_yes n W hmay)
    have Hrp := Lib.hid (fun W => refPut_any n W hmay)
    have HG := Lib.hid (get_put hmay lb)
    have HP := Lib.hid (putL_len (zig n))
    clear hmay
    generalize putL (zig n) = pl at *
    go_enter Try.func3, Try.ntmps3
    go_wp2_with fail
    refine Hp.out.mono ?_
    rintro e w1 ⟨A1, n1, c1, rfl, ho1, B1⟩
    have hn1 : n1 ≤ 11 := by rw [← ho1.len]; exact HP.out.2
    have HN1 := Lib.hid ho1.len
    go_wp2_with fail
    refine (lives01_any w1).mono ?_
    rintro e w2 ⟨rfl, hb2⟩
    have B2 := bel_step B1 hb2
    have q1 := ho1.bs.below hb2
    clear ho1 hb2
    go_wp2_with fail
    refine (Hr.out w2).mono ?_
    rintro e w3 ⟨rfl, rfl⟩
    have hO : Ow (w2.alloc (.cells #[] 5)) w2.heap.size (some ⟨w2.heap.size, 0, none⟩) 0 0 [] := Ow.made w2 [] #[] rfl (by simp [maxLen]) (Nat.le_refl _)
    have qa := q1.alloc (.cells #[] 5)
    go_wp2_with (first
      | (at_builtin; have _t := hO; refine wpList_appBg _ iBytes rfl rfl rfl hO rfl qa n1 pl (by simp) rfl (by omega) (by simp) ?_; intro A3 c3 w3 ho3 hb _ _; clear hO _t; have hb3 : Below w2.heap.size w2 w3 := ((Below.refl _ _).alloc (Nat.le_refl _) _).trans hb; clear hb)
      | (at_builtin; refine wpList_appBg _ iBytes rfl rfl rfl ho3 rfl ((hB.below B2).below hb3) (n1 + m) (pl ++ lb) rfl rfl (by omega) hb3.size ?_; intro A4 c4 w4 ho4 hb4 _ _))
    have S4 := hb3.trans hb4
    clear ho3 hb3 hb4 qa
    refine (get_any A4 (n1 + m) c4 (pl ++ lb) w4 (by omega) ho4.cap ho4.bs).mono ?_
    rw [HG.out]
    rintro e w5 ⟨rfl, rfl⟩
    simp only [gotV]
    rw [HN1.out]
    have q1 := q1.below S4
    have B4 := bel_step B2 S4
    clear S4 ho4
    have ks1 := fun W (hb : Below w4.heap.size w4 W) => (q1.below hb).str (P := Try.prog) 22 9 5 c1 Try.underlying22 Try.underlying5 Try.underlying9
    go_wp2_with fail
    refine wp_region_seq (by kernel_rfl) [(0, true), (1, true), (2, true), (3, true), (4, true), (5, true), (6, false), (7, true), (8, true), (9, true), (10, true), (11, true), (12, true), (13, true), (14, true), (15, true), (16, true), (17, true), (18, true), (19, true), (20, true), (21, true), (22, true), (23, true), (24, true), (25, true)] (by kernel_rfl) rfl (by kernel_rfl) ?_
    intro w5 hb5
    have tr5 : ∀ W, Below w5.heap.size w5 W → Below w4.heap.size w4 W := fun W h => bel_step hb5 h
    iterate 6 (refine wpSeq_take (o := ⟨_, _, _, _, _, _⟩) (v := ?_) rfl rfl ?_ ?_; rotate_left; (focus (intro W hW; go_simp; first | done | with_reducible rfl)); simp only [Act.put, List.setIfInBounds_toArray, List.set_cons_zero, List.set_cons_succ])
    refine wpSeq_exec (o := ⟨_, _, _, _, _, _⟩) rfl rfl (fun K hK => ?_)
    go_simp
    refine (Hrp.out w5).mono ?_
    rintro e w6 ⟨A6, n6, c6, rfl, ho6, hb6⟩
    go_wp2_with fail
    refine hK _ _ hb6 ?_
    clear hK K
    have S6 := bel_step hb5 hb6
    have tr6 : ∀ W, Below w6.heap.size w6 W → Below w4.heap.size w4 W := fun W h => bel_step S6 h
    have ks6 := fun W (hb : Below w6.heap.size w6 W) => (ho6.bs.below hb).str (P := Try.prog) 22 9 5 c6 Try.underlying22 Try.underlying5 Try.underlying9
    iterate 19 (refine wpSeq_take (o := ⟨_, _, _, _, _, _⟩) (v := ?_) rfl rfl ?_ ?_; rotate_left; (focus (intro W hW; go_simp; first | done | with_reducible rfl)); simp only [Act.put, List.setIfInBounds_toArray, List.set_cons_zero, List.set_cons_succ])
    refine wpSeq_nil ?_
    go_wp2_with fail
    go_ret
    exact ⟨rfl, bel_step B4 S6⟩

set_option maxHeartbeats 2000000 in
theorem numGets_walk (A : Option Addr) (n c : Nat) (l : List UInt8) (w : World) (hB : Bs w A n l) (hnc : n ≤ c) (hn : n ≤ 9223372036854775807) :
    Calls Try.prog 4 #[.slice A n c] w (RetTrue w) := by
  by_cases hn3 : 1000 < n
  · go_enter Try.func4, Try.ntmps4
    go_wp2_with fail
    refine (lives01_any w).mono ?_
    rintro e w1 ⟨rfl, hb⟩
    go_wp2_with fail
    go_ret
    exact ⟨rfl, hb⟩
  have d1 : decide (1000 < (n : Int)) = false := by simp; omega
  have Hg := Lib.hid (get_any A n c l w hn hnc hB)
  have Hr := Lib.hid (refGet_any A n c l w hB)
  cases hg : getL l with
  | none =>
    rw [hg] at Hg Hr
    clear hg
    go_enter Try.func4, Try.ntmps4
    go_wp2_with fail
    refine Hg.out.mono ?_
    rintro e w1 ⟨rfl, rfl⟩
    simp only [gotV]
    go_wp2_with fail
    refine Hr.out.mono ?_
    rintro e w1 ⟨rfl, rfl⟩
    simp only [gotR]
    go_wp2_with fail
    refine (lives01_any w).mono ?_
    rintro e w2 ⟨rfl, hb2⟩
    go_wp2_with fail
    refine (put_yes 0 w2 (by decide)).mono ?_
    rintro e w3 ⟨A3, n3, c3, rfl, ho3, hb3⟩
    have B3 := bel_step hb2 hb3
    go_wp2_with fail
    refine wp_region_seq (by kernel_rfl) [(0, true), (1, true), (2, true), (3, true), (4, true), (5, true), (6, true), (7, true), (8, true), (9, true), (10, true), (11, true), (12, true), (13, true), (14, true), (15, true)] (by kernel_rfl) rfl (by kernel_rfl) ?_
    intro w5 hb5
    iterate 3 (refine wpSeq_take (o := ⟨_, _, _, _, _, _⟩) (v := ?_) rfl rfl ?_ ?_; rotate_left; (focus (intro W hW; go_simp; first | done | with_reducible rfl)); simp only [Act.put, List.setIfInBounds_toArray, List.set_cons_zero, List.set_cons_succ])
    iterate 11 (refine wpSeq_skip (o := ⟨_, _, _, _, _, _⟩) rfl rfl ?_; simp only [Act.put, List.setIfInBounds_toArray, List.set_cons_zero, List.set_cons_succ])
    iterate 2 (refine wpSeq_take (o := ⟨_, _, _, _, _, _⟩) (v := ?_) rfl rfl ?_ ?_; rotate_left; (focus (intro W hW; go_simp; first | done | with_reducible rfl)); simp only [Act.put, List.setIfInBounds_toArray, List.set_cons_zero, List.set_cons_succ])
    refine wpSeq_nil ?_
    go_wp2_with fail
    go_ret
    exact ⟨rfl, bel_step B3 hb5⟩
  | some r =>
    obtain ⟨m, k⟩ := r
    obtain ⟨p1, p2, p3, p4, p5⟩ := put_get hg
    have hk : k ≤ n := by rw [← hB.len]; exact p3
    rw [hg] at Hg Hr
    have HP := Lib.hid p1
    have Hp := Lib.hid (fun W => put_yes m W p2)
    clear hg p1 p2 p3
    have b1 : (k : Int) ≤ (c : Int) := by omega
    have b2 : (0 : Int) ≤ (k : Int) := by omega
    rw [HP.out] at Hp
    go_enter Try.func4, Try.ntmps4
    go_wp2_with fail
    refine Hg.out.mono ?_
    rintro e w1 ⟨rfl, rfl⟩
    simp only [gotV]
    go_wp2_with fail
    refine Hr.out.mono ?_
    rintro e w1 ⟨rfl, rfl⟩
    simp only [gotR]
    go_wp2_with fail
    refine (lives01_any w).mono ?_
    rintro e w2 ⟨rfl, hb2⟩
    go_wp2_with fail
    refine (Hp.out w2).mono ?_
    rintro e w3 ⟨A3, n3, c3, rfl, ho3, hb3⟩
    have B3 := bel_step hb2 hb3
    have q0 := (hB.below B3).upto hk
    have ks0 := fun W (hb : Below w3.heap.size w3 W) => (q0.below hb).str (P := Try.prog) 22 9 5 c Try.underlying22 Try.underlying5 Try.underlying9
    have ks3 := fun W (hb : Below w3.heap.size w3 W) => (ho3.bs.below hb).str (P := Try.prog) 22 9 5 c3 Try.underlying22 Try.underlying5 Try.underlying9
    go_wp2_with fail
    refine wp_region_seq (by kernel_rfl) [(0, true), (1, true), (2, true), (3, true), (4, true), (5, true), (6, true), (7, true), (8, true), (9, true), (10, true), (11, true), (12, true), (13, true), (14, true), (15, true)] (by kernel_rfl) rfl (by kernel_rfl) ?_
    intro w5 hb5
    have tr5 : ∀ W, Below w5.heap.size w5 W → Below w3.heap.size w3 W := fun W h => bel_step hb5 h
    iterate 16 (refine wpSeq_take (o := ⟨_, _, _, _, _, _⟩) (v := ?_) rfl rfl ?_ ?_; rotate_left; (focus (intro W hW; go_simp; first | done | with_reducible rfl)); simp only [Act.put, List.setIfInBounds_toArray, List.set_cons_zero, List.set_cons_succ])
    refine wpSeq_nil ?_
    go_wp2_with fail
    go_ret
    exact ⟨rfl, bel_step B3 hb5⟩
end Go.Proofs.Ytgklbejnbplbgaa
