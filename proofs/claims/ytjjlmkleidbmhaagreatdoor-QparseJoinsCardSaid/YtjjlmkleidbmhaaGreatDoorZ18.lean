/-
  Queries' texts and what they lean on, part 18: only what the claims need.
-/
import Derived.Test.YtjjlmkleidbmhaaGreatDoorZ17
import Derived.Lib.ItoaLen
import Derived.Lib.IndexMore
import Derived.Lib.Split
import Derived.Lib.SplitLaws
import Derived.Lib.CountLaws
import Derived.Test.YtjjlmkleidbmhaaGreatDoorZ13
import Derived.Test.YtjjlmkleidbmhaaGreatDoorZ07
section
namespace Go.Proofs.YtjjlmkleidbmhaaGreatDoor
open Go.ChangeShapes Go.WideShapes Go.ChangeAt Go.Deep
open Go.RowKit Go.Nst
set_option maxRecDepth 100000
set_option linter.unusedVariables false
set_option linter.unusedSimpArgs false

theorem webR_may {l : List UInt8} {n : Int} (h : webR l = some n) : mayM n = true := by
  have f : ∀ (d : Dt) (z : Int), toldR d z = some n → mayM n = true := fun d z e => by
    unfold toldR at e
    split at e
    · rename_i hb
      injection e with e
      rw [← e]
      simp only [Bool.and_eq_true] at hb
      exact hb.2
    · cases e
  unfold webR at h
  split at h
  · cases h
  · split at h
    · cases h
    · unfold webZ at h
      split at h
      · exact f _ _ h
      · split at h
        · cases h
        · split at h
          · cases h
          · exact f _ _ h
theorem mom_i64 (s : List UInt8) : i64P ((momT s).getD 0) := by
  cases h : momT s with
  | none => exact i64P_lit (by simp)
  | some n =>
    have := webR_may h
    unfold mayM at this
    simp at this
    exact ⟨by simp; omega, by simp; omega⟩
theorem num_i64 (s : List UInt8) : i64P (numC s) := by
  unfold numC
  split
  · rename_i v h
    have := Lib.atoiAll_bounds h
    split
    · exact ⟨by omega, by omega⟩
    · exact this
  · exact ⟨by omega, by omega⟩
theorem foldT_len26 (l : List UInt8) : (foldT l).length ≤ 4 * l.length := by
  unfold foldT
  have h1 := putR_len ((runesI l).map foldC)
  rw [List.length_map] at h1
  have h3 := runesI_le l
  omega
theorem nmC_ok (nm s : List UInt8) (hs : s.length ≤ 512) : ∃ o n t, (nmC nm s).1 = ⟨o, n, t, []⟩ ∧ i64P o ∧ i64P n ∧ t.length ≤ 2048 := by
  have h1 := num_i64 s
  have h2 := mom_i64 s
  have h3 := foldT_len26 s
  have z : ∀ o : Int, 0 ≤ o → o ≤ 15 → i64P o := fun o a b => ⟨by omega, by omega⟩
  unfold nmC
  split
  · exact ⟨_, _, _, rfl, z _ (by omega) (by omega), h1, by simp⟩
  split
  · exact ⟨_, _, _, rfl, z _ (by omega) (by omega), h1, by simp⟩
  split
  · exact ⟨_, _, _, rfl, z _ (by omega) (by omega), h1, by simp⟩
  split
  · exact ⟨_, _, _, rfl, z _ (by omega) (by omega), h2, by simp⟩
  split
  · exact ⟨_, _, _, rfl, z _ (by omega) (by omega), h2, by simp⟩
  split
  · exact ⟨_, _, _, rfl, z _ (by omega) (by omega), z _ (by omega) (by omega), by omega⟩
  split
  · exact ⟨_, _, _, rfl, z _ (by omega) (by omega), z _ (by omega) (by omega), by omega⟩
  split
  · exact ⟨_, _, _, rfl, z _ (by omega) (by omega), z _ (by omega) (by omega), by omega⟩
  · exact ⟨_, _, _, rfl, z _ (by omega) (by omega), z _ (by omega) (by omega), by simp⟩
theorem bel26_drewN {B : Nat} {w w' : World} (h : Below B w w') (n : Nat) : Below B w (w'.drewN n) := ⟨h.os, h.tape, h.output, h.size, h.block⟩
/-- a leaf checked -/
theorem check_leaf (o n : Int) (t : List UInt8) (ho : i64P o) (hn : i64P n) (ht : t.length ≤ 2048) (w : World) : Calls Tryz.prog 19 #[.agg #[.int .i64 o, .int .i64 n, .string ⟨t.toArray⟩, .slice none 0 0]] w fun e w' => e = .returned (errV (okQ ⟨o, n, t, []⟩)) ∧ Below w.heap.size w w' :=
  Check25_any ⟨o, n, t, []⟩ (fun _ => ⟨by simp [nodQ, nodL], .mk (show t.length ≤ 20000 by omega) (by simp)⟩) _ w (fun _ => True) (QAt.leaf ho hn (by omega))
theorem cut26_any (s a r : List UInt8) (b : Bool) (hc : Lib.cut s [58] = (a, r, b)) (W : World) (hs : s.length ≤ 512) (hW : QpW W) : Calls Tryz.prog 104 #[.string ⟨s.toArray⟩, .string ⟨#[58]⟩] W fun e w' => e = .returned (.tuple #[.string ⟨a.toArray⟩, .string ⟨r.toArray⟩, .bool b]) ∧ Below W.heap.size W w' := by
  obtain ⟨m, hm⟩ := hW.max
  have h := Tryz.strings_Cut ⟨s.toArray⟩ ⟨#[58]⟩ m W (by rw [size_of]; omega) hm
  simp only at h
  rw [hc] at h
  refine h.mono ?_
  rintro _ w1 ⟨rfl, k, rfl⟩
  exact ⟨rfl, bel26_drewN (Below.refl _ _) k⟩
set_option maxHeartbeats 1000000 in
theorem term26_no (s a r : List UInt8) (hc : Lib.cut s [58] = (a, r, true)) (w : World) (hs : s.length ≤ 512) (har : a.length + r.length ≤ 512) (hW : QpW w) (hok : (nmC a r).2 = false) : Calls Tryz.prog 86 #[.string ⟨s.toArray⟩] w (RetTm (tmC s) w) := by
  have HTM : Hid (tmC s = none) := Lib.hid (by unfold tmC; rw [hc]; simp [hok])
  rw [HTM.out]
  obtain ⟨o, n, t, hq, ho, hn, ht⟩ := nmC_ok a r (by omega)
  have B0 := bel_alloc (Below.refl w.heap.size w) (.cells #[.int .i64 0, .int .i64 0, .string ⟨#[]⟩, .slice none 0 0] 25)
  have B1 := Lib.hid (bel_alloc B0 (.cells #[.int .i64 0, .int .i64 0, .string ⟨#[]⟩, .slice none 0 0] 25))
  have X0 := Lib.hid ((Blk.new w 25 #[.int .i64 0, .int .i64 0, .string ⟨#[]⟩, .slice none 0 0]).alloc (.cells #[.int .i64 0, .int .i64 0, .string ⟨#[]⟩, .slice none 0 0] 25))
  have X1 : Hid (Blk ((w.alloc (.cells #[.int .i64 0, .int .i64 0, .string ⟨#[]⟩, .slice none 0 0] 25)).alloc (.cells #[.int .i64 0, .int .i64 0, .string ⟨#[]⟩, .slice none 0 0] 25)) (w.heap.size + 1) 25 #[.int .i64 0, .int .i64 0, .string ⟨#[]⟩, .slice none 0 0]) := Lib.hid (by
    have h := Blk.new (w.alloc (.cells #[.int .i64 0, .int .i64 0, .string ⟨#[]⟩, .slice none 0 0] 25)) 25 #[.int .i64 0, .int .i64 0, .string ⟨#[]⟩, .slice none 0 0]
    rwa [show (w.alloc (.cells #[.int .i64 0, .int .i64 0, .string ⟨#[]⟩, .slice none 0 0] 25)).heap.size = w.heap.size + 1 by simp] at h)
  have HW1 := Lib.hid (hW.keep B1.out)
  have HCUT := Lib.hid (cut26_any s a r true hc _ hs HW1.out)
  have HNM : Hid (∀ W, QpW W → Calls Tryz.prog 105 #[.string ⟨a.toArray⟩, .string ⟨r.toArray⟩] W (RetLf W o n t false)) := Lib.hid (fun W h => by
    have h1 := named26_any a r W (by omega) h
    rw [hq, hok] at h1
    exact h1)
  have HTM : Hid (∀ e w', (∃ q vs, e = .returned (.tuple #[.agg vs, .bool false]) ∧ QAt w' (fun b => w.heap.size ≤ b) vs q ∧ Below w.heap.size w w') → RetTm none w e w') := Lib.hid (fun e w' h => let ⟨q, vs, h1, h2, h3⟩ := h; ⟨q, vs, h1, h2, h3, fun _ h => by cases h⟩)
  clear hW hc hok hq B0
  go_enter Tryz.func86, Tryz.ntmps86
  go_wp2_with fail
  (with_reducible refine (HCUT.out).mono ?_)
  rintro _ w1 ⟨rfl, hw1⟩
  have HB1 := Lib.hid hw1
  have hz1 := HB1.out.size
  simp at hz1
  clear hw1
  go_wp2_with fail
  (with_reducible refine (HNM.out w1 (HW1.out.keep HB1.out)).mono ?_)
  rintro _ w2 ⟨rfl, hb2⟩
  have HB2 := Lib.hid hb2
  have hz2 := hb2.size
  have HX0 := Lib.hid ((X0.out.below HB1.out X0.out.lt).below hb2 (by omega))
  have HX1 := Lib.hid ((X1.out.below HB1.out X1.out.lt).below hb2 (by omega))
  obtain ⟨k0, k1, k2, k3, k4, k5⟩ := res_facts HX0.out
  obtain ⟨m0, m1, m2, m3, m4, m5⟩ := res_facts HX1.out
  have HBW := Lib.hid (bel4 (bel_step B1.out (bel_step HB1.out hb2)) (show w.heap.size ≤ w.heap.size + 1 by omega) (.int .i64 o) (.int .i64 n) (.string ⟨t.toArray⟩) (.slice none 0 0))
  have HY1 := Lib.hid (set4 HX1.out (.int .i64 o) (.int .i64 n) (.string ⟨t.toArray⟩) (.slice none 0 0))
  have HY0 := Lib.hid (HX0.out.grown (grown4 w2 (w.heap.size + 1) (.int .i64 o) (.int .i64 n) (.string ⟨t.toArray⟩) (.slice none 0 0)) (by simp))
  clear hb2
  go_wp2_with fail
  obtain ⟨wy, hwy⟩ : ∃ wy, wy = ((((w2.setCell ⟨w.heap.size + 1, 0, none⟩ (.int .i64 o)).setCell ⟨w.heap.size + 1, 1, none⟩ (.int .i64 n)).setCell ⟨w.heap.size + 1, 2, none⟩ (.string ⟨t.toArray⟩)).setCell ⟨w.heap.size + 1, 3, none⟩ (.slice none 0 0)) := ⟨_, rfl⟩
  rw [← hwy] at HY1 HY0 HBW ⊢
  clear hwy k0 k1 k2 k3 k4 k5 m0 m1 m2 m3 m4 m5
  refine wp_region_ordR (fun u v => u.grownBy v (some w.heap.size)) (fun _ => World.grownBy.refl _ _) (fun _ _ _ => grown_trans) (by kernel_rfl) (.take 0 (.take 1 (.take 2 (.take 3 (.exec 4 (.take 5 (.take 6 (.exec 7 (.take 8 (.nil)))))))))) (by kernel_rfl) (by kernel_rfl) (by kernel_rfl) ?_
  obtain ⟨w0, hw0⟩ : ∃ w0, w0 = wy.drew := ⟨_, rfl⟩
  have BQ : Below w.heap.size w w0 := by rw [hw0]; exact HBW.out.drew
  have HX : Blk w0 w.heap.size 25 #[.int .i64 0, .int .i64 0, .string ⟨#[]⟩, .slice none 0 0] := by rw [hw0]; exact HY0.out.drew
  have HY : Blk w0 (w.heap.size + 1) 25 #[.int .i64 o, .int .i64 n, .string ⟨t.toArray⟩, .slice none 0 0] := by rw [hw0]; exact HY1.out.drew
  rw [← hw0]
  clear hw0
  have y0 := fun W (hW : w0.grownBy W (some w.heap.size)) => (show W.cell? ⟨w.heap.size + 1, 0, none⟩ = some (.int .i64 o) from ((HY.grown hW (by simp)).cell 0).trans rfl)
  have y1 := fun W (hW : w0.grownBy W (some w.heap.size)) => (show W.cell? ⟨w.heap.size + 1, 1, none⟩ = some (.int .i64 n) from ((HY.grown hW (by simp)).cell 1).trans rfl)
  have y2 := fun W (hW : w0.grownBy W (some w.heap.size)) => (show W.cell? ⟨w.heap.size + 1, 2, none⟩ = some (.string ⟨t.toArray⟩) from ((HY.grown hW (by simp)).cell 2).trans rfl)
  have y3 := fun W (hW : w0.grownBy W (some w.heap.size)) => (show W.cell? ⟨w.heap.size + 1, 3, none⟩ = some (.slice none 0 0) from ((HY.grown hW (by simp)).cell 3).trans rfl)
  have HXH := Lib.hid HX
  have HYH := Lib.hid HY
  have BQH := Lib.hid BQ
  clear HX HY BQ
  iterate 3 (refine wpOrd_take (o := ⟨_, _, _, _, _, _⟩) (v := ?_) rfl rfl ?_ ?_; rotate_left; (focus (intro W hW; go_simp; first | done | with_reducible rfl)); simp only [Act.put, List.setIfInBounds_toArray, List.set_cons_zero, List.set_cons_succ])
  iterate 1 (refine wpOrd_skip (o := ⟨_, _, _, _, _, _⟩) rfl rfl ?_; simp only [Act.put, List.setIfInBounds_toArray, List.set_cons_zero, List.set_cons_succ])
  refine wpOrd_none (fun _ => World.grownBy.refl _ _) (o := ⟨_, _, _, _, _, _⟩) rfl rfl ?_
  simp only [Act.put, List.setIfInBounds_toArray, List.set_cons_zero, List.set_cons_succ]
  iterate 1 (refine wpOrd_skip (o := ⟨_, _, _, _, _, _⟩) rfl rfl ?_; simp only [Act.put, List.setIfInBounds_toArray, List.set_cons_zero, List.set_cons_succ])
  iterate 1 (refine wpOrd_take (o := ⟨_, _, _, _, _, _⟩) (v := ?_) rfl rfl ?_ ?_; rotate_left; (focus (intro W hW; go_simp; first | done | with_reducible rfl)); simp only [Act.put, List.setIfInBounds_toArray, List.set_cons_zero, List.set_cons_succ])
  clear y0 y1 y2 y3
  obtain ⟨k0, k1, k2, k3, k4, k5⟩ := res_facts HXH.out
  refine wpOrd_exec (o := ⟨_, _, _, _, _, _⟩) rfl rfl (fun K hK => ?_)
  go_simp
  refine hK _ _ (grown4 _ _ _ _ _ _) ?_
  clear hK K
  iterate 1 (refine wpOrd_take (o := ⟨_, _, _, _, _, _⟩) (v := ?_) rfl rfl ?_ ?_; rotate_left; (focus (intro W hW; go_simp; first | done | with_reducible rfl)); simp only [Act.put, List.setIfInBounds_toArray, List.set_cons_zero, List.set_cons_succ])
  refine wpOrd_nil ?_
  have y := set4 HXH.out (.int .i64 o) (.int .i64 n) (.string ⟨t.toArray⟩) (.slice none 0 0)
  have y0 := y.cell 0
  have y1 := y.cell 1
  have y2 := y.cell 2
  have y3 := y.cell 3
  simp at y0 y1 y2 y3
  go_wp2_with fail
  try simp only [Exit.inBlock, Exit.then]
  exact bodyPost_ret (v := .tuple #[.agg #[.int .i64 o, .int .i64 n, .string ⟨t.toArray⟩, .slice none 0 0], .bool false]) (by simp [results, Tryz.results86, go_sem, y0, y1, y2, y3]) rfl (HTM.out _ _ ⟨⟨o, n, t, []⟩, _, rfl, QAt.leaf ho hn (by omega), bel4 BQH.out (Nat.le_refl _) _ _ _ _⟩)
end Go.Proofs.YtjjlmkleidbmhaaGreatDoor
end
section
namespace Go.Proofs.YtjjlmkleidbmhaaGreatDoor
open Go.ChangeShapes Go.WideShapes Go.ChangeAt Go.Deep
open Go.RowKit Go.Nst
set_option maxRecDepth 100000
set_option linter.unusedVariables false
set_option linter.unusedSimpArgs false

/-- a query that comes of a term -/
def LfQ (q : Qy) : Prop := nodQ q = 1 ∧ Sml q
/-- what was taken bounds what came -/
def Bnd (one : List Pt → Rs) : Prop := ∀ l q r, one l = .ok q r → nodQ q + 1 + 2 * r.length ≤ 2 * l.length ∧ Sml q
theorem svl_bound (o : Int) {acc : List Qy} (h0 : acc ≠ []) (hs : ∀ k ∈ acc, Sml k) : nodQ (svl o acc) + 1 ≤ nodL acc 0 + acc.length ∧ Sml (svl o acc) := by
  match acc, h0, hs with
  | [q], _, hs =>
    refine ⟨?_, hs q (by simp)⟩
    simp only [svl, nodL, List.length_cons, List.length_nil]
    omega
  | a :: b :: t, _, hs =>
    have e : svl o (a :: b :: t) = ⟨o, 0, [], a :: b :: t⟩ := rfl
    rw [e]
    refine ⟨?_, .mk (by simp) hs⟩
    simp only [nodQ]
    rw [nodL_add _ 1]
    simp only [List.length_cons]
    omega
theorem nxt_cons {l : List Pt} (h : nxt l ≠ []) : l.length = l.tail.length + 1 := by
  cases l with
  | nil => exact absurd rfl h
  | cons a t => simp
theorem snoc_all {acc : List Qy} {q : Qy} (hs : ∀ k ∈ acc, Sml k) (h : Sml q) : ∀ k ∈ acc ++ [q], Sml k := by
  intro k hk
  rcases List.mem_append.1 hk with hk | hk
  · exact hs k hk
  · rw [List.mem_singleton.1 hk]; exact h
theorem allG_bound {one : List Pt → Rs} (h : Bnd one) : ∀ f acc l q r, acc ≠ [] → (∀ k ∈ acc, Sml k) → allG one f acc l = .ok q r → nodQ q + 1 + 2 * r.length ≤ nodL acc 0 + acc.length + 2 * l.length ∧ Sml q
  | 0, acc, l, q, r, h0, hs, e => by
    simp only [allG] at e
    split at e
    · injection e with e1 e2
      subst e1
      subst e2
      have := svl_bound 3 h0 hs
      exact ⟨by omega, this.2⟩
    · cases e
  | f + 1, acc, l, q, r, h0, hs, e => by
    simp only [allG] at e
    split at e
    · injection e with e1 e2
      subst e1
      subst e2
      have := svl_bound 3 h0 hs
      exact ⟨by omega, this.2⟩
    · have hle : (if nxt l == tAnd then l.tail else l).length ≤ l.length := by split <;> simp
      generalize (if nxt l == tAnd then l.tail else l) = x at *
      cases ho : one x with
      | bad r' => rw [ho] at e; cases e
      | ok q' r' =>
        rw [ho] at e
        have hq := h _ _ _ ho
        have ih := allG_bound h f (acc ++ [q']) r' q r (by simp) (snoc_all hs hq.2) e
        rw [nodL_snoc, List.length_append] at ih
        simp only [List.length_cons, List.length_nil] at ih
        exact ⟨by omega, ih.2⟩
theorem allF_bound {one : List Pt → Rs} (h : Bnd one) : Bnd (allF one) := by
  intro l q r e
  unfold allF at e
  cases ho : one l with
  | bad r' => rw [ho] at e; cases e
  | ok q' r' =>
    rw [ho] at e
    have hq := h _ _ _ ho
    have := allG_bound h _ [q'] r' q r (by simp) (by intro k hk; rw [List.mem_singleton.1 hk]; exact hq.2) e
    simp only [nodL, List.length_cons, List.length_nil] at this
    exact ⟨by omega, this.2⟩
theorem qryG_bound {all : List Pt → Rs} (h : Bnd all) : ∀ f acc l q r, acc ≠ [] → (∀ k ∈ acc, Sml k) → qryG all f acc l = .ok q r → nodQ q + 1 + 2 * r.length ≤ nodL acc 0 + acc.length + 2 * l.length ∧ Sml q
  | 0, acc, l, q, r, h0, hs, e => by
    simp only [qryG] at e
    split at e
    · cases e
    · injection e with e1 e2
      subst e1
      subst e2
      have := svl_bound 4 h0 hs
      exact ⟨by omega, this.2⟩
  | f + 1, acc, l, q, r, h0, hs, e => by
    simp only [qryG] at e
    split at e
    · have hle : l.tail.length ≤ l.length := by simp
      generalize l.tail = x at *
      cases ho : all x with
      | bad r' => rw [ho] at e; cases e
      | ok q' r' =>
        rw [ho] at e
        have hq := h _ _ _ ho
        have ih := qryG_bound h f (acc ++ [q']) r' q r (by simp) (snoc_all hs hq.2) e
        rw [nodL_snoc, List.length_append] at ih
        simp only [List.length_cons, List.length_nil] at ih
        exact ⟨by omega, ih.2⟩
    · injection e with e1 e2
      subst e1
      subst e2
      have := svl_bound 4 h0 hs
      exact ⟨by omega, this.2⟩
theorem qryF_bound {one : List Pt → Rs} (h : Bnd one) : Bnd (qryF one) := by
  intro l q r e
  unfold qryF at e
  cases ho : allF one l with
  | bad r' => rw [ho] at e; cases e
  | ok q' r' =>
    rw [ho] at e
    have hq := allF_bound h _ _ _ ho
    have := qryG_bound (allF_bound h) _ [q'] r' q r (by simp) (by intro k hk; rw [List.mem_singleton.1 hk]; exact hq.2) e
    simp only [nodL, List.length_cons, List.length_nil] at this
    exact ⟨by omega, this.2⟩
theorem oneF_bound {tm : List UInt8 → Option Qy} (ht : ∀ s q, tm s = some q → LfQ q) : ∀ f, Bnd (oneF tm f)
  | 0 => by intro l q r e; cases e
  | f + 1 => by
    have ih := oneF_bound ht f
    intro l q r e
    simp only [oneF, oneS] at e
    split at e
    · cases e
    · rename_i h0
      have hne : nxt l ≠ [] := by
        intro hh
        rw [hh] at h0
        exact h0 (by simp)
      have hl := nxt_cons hne
      split at e
      · cases ho : oneF tm f l.tail with
        | bad r' => rw [ho] at e; cases e
        | ok q' r' =>
          rw [ho] at e
          injection e with e1 e2
          subst e1
          subst e2
          have h1 := ih _ _ _ ho
          refine ⟨?_, .mk (by simp) (by intro k hk; rw [List.mem_singleton.1 hk]; exact h1.2)⟩
          simp only [nodQ, nodL]
          omega
      · split at e
        · cases ho : qryF (oneF tm f) l.tail with
          | bad r' => rw [ho] at e; cases e
          | ok q' r' =>
            rw [ho] at e
            have h1 := qryF_bound ih _ _ _ ho
            simp only at e
            split at e
            · injection e with e1 e2
              subst e1
              subst e2
              have : r'.tail.length ≤ r'.length := by simp
              exact ⟨by omega, h1.2⟩
            · cases e
        · split at e
          · rename_i q' hq
            injection e with e1 e2
            subst e1
            subst e2
            obtain ⟨h1, h2⟩ := ht _ _ hq
            exact ⟨by omega, h2⟩
          · cases e
/-- a word is short -/
theorem word_short {l : List UInt8} (h : wordB l = true) : l.length ≤ 128 := by
  unfold wordB wordsL wordsR at h
  have h : ((runsF [] ((runesI l).map foldC)).map (·.take 32)).map putR = [l] := by simpa using h
  generalize runsF [] ((runesI l).map foldC) = R at *
  match R, h with
  | [r], h =>
    simp only [List.map_cons, List.map_nil, List.cons.injEq, and_true] at h
    subst h
    have h1 := putR_len (r.take 32)
    have h2 : (r.take 32).length ≤ 32 := by rw [List.length_take]; omega
    omega
theorem leaf_short {o n : Int} {s : List UInt8} (h3 : o ≠ 3) (h4 : o ≠ 4) (h5 : o ≠ 5) (h : oneQ o n s 0 = true) : s.length ≤ 128 := by
  rcases leaf_cases h3 h4 h5 h with ⟨_, _, rfl⟩ | ⟨_, _, _, rfl⟩ | ⟨_, _, rfl⟩ | ⟨_, _, hw⟩
  · simp
  · simp
  · simp
  · exact word_short hw
theorem chk_lf {o n : Int} {s : List UInt8} {q : Qy} (h3 : o ≠ 3) (h4 : o ≠ 4) (h5 : o ≠ 5) (h : chkQ ⟨o, n, s, []⟩ = some q) : LfQ q := by
  unfold chkQ at h
  split at h
  · rename_i ho
    injection h with h
    subst h
    rw [okQ_leaf] at ho
    have := leaf_short h3 h4 h5 ho
    exact ⟨by simp [nodQ, nodL], .mk (by omega) (by simp)⟩
  · cases h
theorem bind_lf {o : Int} {m : Option Int} {q : Qy} (h3 : o ≠ 3) (h4 : o ≠ 4) (h5 : o ≠ 5) (h : (m.bind fun n => chkQ ⟨o, n, [], []⟩) = some q) : LfQ q := by
  cases m with
  | none => cases h
  | some n => exact chk_lf h3 h4 h5 h
theorem plain_lf {o : Int} {q : Qy} (h : some (⟨o, 0, [], []⟩ : Qy) = some q) : LfQ q := by
  injection h with h
  subst h
  exact ⟨by simp [nodQ, nodL], .mk (by simp) (by simp)⟩
theorem term_lf (s : List UInt8) (q : Qy) (h : termD s = some q) : LfQ q := by
  unfold termD at h
  split at h
  · exact plain_lf h
  split at h
  · exact plain_lf h
  split at h
  · exact plain_lf h
  split at h
  · exact plain_lf h
  split at h
  · exact chk_lf (by decide) (by decide) (by decide) h
  split at h
  · exact chk_lf (by decide) (by decide) (by decide) h
  split at h
  · exact chk_lf (by decide) (by decide) (by decide) h
  split at h
  · exact bind_lf (by decide) (by decide) (by decide) h
  split at h
  · exact bind_lf (by decide) (by decide) (by decide) h
  split at h
  · exact chk_lf (by decide) (by decide) (by decide) h
  split at h
  · exact chk_lf (by decide) (by decide) (by decide) h
  split at h
  · exact chk_lf (by decide) (by decide) (by decide) h
  · exact chk_lf (by decide) (by decide) (by decide) h
theorem pts_len : ∀ (n : Nat) (l : List UInt8) (i : Int), l.length ≤ n → (ptsL l i).length ≤ l.length
  | 0, l, i, h => by
    obtain rfl : l = [] := List.eq_nil_of_length_eq_zero (by omega)
    simp [ptsL_nil]
  | n + 1, l, i, h => by
    cases l with
    | nil => simp [ptsL_nil]
    | cons c r =>
      simp only [List.length_cons] at h ⊢
      by_cases h32 : (c == 32) = true
      · obtain rfl : c = 32 := by simpa using h32
        rw [ptsL_blank]
        have := pts_len n r (i + 1) (by omega)
        omega
      · have h32 : (c == 32) = false := by simpa using h32
        by_cases hs : sideB c = true
        · rw [ptsL_side _ _ hs h32, List.length_cons]
          have := pts_len n r (i + 1) (by omega)
          omega
        · have hs : sideB c = false := by simpa using hs
          have hd := dw_le (p := runB) r
          rw [ptsL_run _ _ hs, List.length_cons]
          have := pts_len n (r.dropWhile runB) (i + 1 + (r.takeWhile runB).length) (by omega)
          omega
/-- what is parsed is small -/
theorem parsed_ask {s : List UInt8} {q : Qy} {r : List Pt} (hs : s.length ≤ 512) (h : qryF (oneF termD (ptsL s 0).length) (ptsL s 0) = .ok q r) : nodQ q ≤ 1024 ∧ Sml q := by
  have h1 := qryF_bound (oneF_bound term_lf _) _ _ _ h
  have h2 := pts_len s.length s 0 (Nat.le_refl _)
  exact ⟨by omega, h1.2⟩
theorem ask_of_small {q : Qy} (h : nodQ q ≤ 1000000) (hs : Sml q) : Ask q := fun _ => ⟨h, hs⟩

theorem leafD_len {o n : Int} {s : List UInt8} (h3 : o ≠ 3) (h4 : o ≠ 4) (h5 : o ≠ 5) (h : oneQ o n s 0 = true) : (leafD o n s).length ≤ 200 := by
  rcases leaf_cases h3 h4 h5 h with ⟨ho, rfl, rfl⟩ | ⟨ho, h0, h1, rfl⟩ | ⟨ho, hm, rfl⟩ | ⟨ho, rfl, hw⟩
  · rcases ho with rfl | rfl | rfl | rfl <;> decide
  · have hr := Lib.itoa_length_le n (by omega) (by omega)
    rcases ho with rfl | rfl | rfl
    · rw [show leafD 6 n [] = pFee ++ Lib.itoa n from rfl, List.length_append, show pFee.length = 5 from rfl]; omega
    · rw [show leafD 7 n [] = pFol ++ Lib.itoa n from rfl, List.length_append, show pFol.length = 7 from rfl]; omega
    · rw [show leafD 15 n [] = pWit ++ Lib.itoa n from rfl, List.length_append, show pWit.length = 7 from rfl]; omega
  · have hr := (showT_run (ofD n)).2
    rcases ho with rfl | rfl
    · rw [show leafD 13 n [] = pBef ++ showT (ofD n) from rfl, List.length_append, hr, show pBef.length = 7 from rfl]; omega
    · rw [show leafD 14 n [] = pSin ++ showT (ofD n) from rfl, List.length_append, hr, show pSin.length = 6 from rfl]; omega
  · have hr := word_short hw
    rcases ho with rfl | rfl | rfl
    · rw [show leafD 8 0 s = pTag ++ s from rfl, List.length_append, show pTag.length = 4 from rfl]; omega
    · rw [show leafD 11 0 s = pWor ++ s from rfl, List.length_append, show pWor.length = 5 from rfl]; omega
    · rw [show leafD 12 0 s = pBeg ++ s from rfl, List.length_append, show pBeg.length = 7 from rfl]; omega
theorem shwK_len (lf : Int → Int → List UInt8 → List UInt8) (i : Int) (k : Qy) : (shwK lf i k).length ≤ (shwQ lf k).length + 2 := by
  unfold shwK
  split
  · simp
  · omega
theorem shwL_len {lf : Int → Int → List UInt8 → List UInt8} (sp : List UInt8) (hsp : sp.length ≤ 4) (i : Int) : ∀ l : List Qy, (∀ k ∈ l, (shwQ lf k).length + 10 ≤ 300 * nodQ k) → (shwL lf sp i l).length ≤ 300 * nodL l 0
  | [], _ => by simp [shwL]
  | k :: l, h => by
    rw [shwL_cons, List.length_append, List.length_append]
    have h1 := shwK_len lf i k
    have h2 := h k (by simp)
    have h3 := shwL_len sp hsp i l (fun k' hk' => h k' (by simp [hk']))
    have h4 : nodL (k :: l) 0 = nodQ k + nodL l 0 := by
      simp only [nodL]
      rw [nodL_add]
      omega
    omega
theorem shown_len (q : Qy) : plaQ q = true → (shwD q).length + 10 ≤ 300 * nodQ q := by
  refine Qy.ind (p := fun q => plaQ q = true → (shwD q).length + 10 ≤ 300 * nodQ q) ?_ q
  intro o n s ks ih hp
  obtain ⟨h1, h2⟩ := pla_parts hp
  obtain ⟨k1, k2, k3⟩ := one_kids h1
  have hm := plaL_mem h2
  have hL := fun sp hsp i => shwL_len (lf := leafD) sp hsp i ks (fun k hk => ih k hk (hm k hk))
  have hN : nodQ ⟨o, n, s, ks⟩ = 1 + nodL ks 0 := by
    simp only [nodQ]
    rw [nodL_add]
  rw [hN]
  simp only [shwD, shwQ]
  split
  · have := hL [32] (by simp) 5
    rw [List.length_append]
    simp only [List.length_cons, List.length_nil]
    omega
  rename_i h5
  split
  · have := hL [32] (by simp) 3
    rw [List.length_drop]
    omega
  rename_i h3
  split
  · have := hL [32, 111, 114, 32] (by simp) 4
    rw [List.length_drop]
    omega
  rename_i h4
  have hk0 := k3 h3 h4 h5
  rw [hk0] at h1
  have := leafD_len h3 h4 h5 h1
  omega
end Go.Proofs.YtjjlmkleidbmhaaGreatDoor
end
section
section
namespace Go.Proofs.YtjjlmkleidbmhaaGreatDoor
open Go.RowKit Go.Nst
set_option maxRecDepth 100000
set_option linter.unusedVariables false
set_option linter.unusedSimpArgs false

def znV (o : Option Int) : Value := .tuple #[.int .i64 (o.getD 0), .bool o.isSome]
end Go.Proofs.YtjjlmkleidbmhaaGreatDoor
end
section
namespace Go.Proofs.YtjjlmkleidbmhaaGreatDoor
open Go.RowKit Go.Nst
set_option maxRecDepth 100000
set_option linter.unusedVariables false
set_option linter.unusedSimpArgs false

end Go.Proofs.YtjjlmkleidbmhaaGreatDoor
end
section
namespace Go.Proofs.YtjjlmkleidbmhaaGreatDoor
open Go.RowKit Go.Nst
set_option maxRecDepth 100000
set_option linter.unusedVariables false
set_option linter.unusedSimpArgs false

end Go.Proofs.YtjjlmkleidbmhaaGreatDoor
end
end
section
namespace Go.Proofs.YtjjlmkleidbmhaaGreatDoor
open Go.RowKit Go.Nst
set_option maxRecDepth 100000
set_option linter.unusedVariables false
set_option linter.unusedSimpArgs false

/-- the world while a date of the mail is read: the words' row, the reader -/
structure MS (w W : World) (gw gr : Nat) (cs : Array Value) (r : RD) : Prop where
  qq : Blk W gw 9 cs
  rr : Rdd W gr r
  bel : Below w.heap.size w W
  h1 : w.heap.size ≤ gw
  h2 : gw < gr
theorem MS.drew {w W : World} {gw gr : Nat} {cs : Array Value} {r : RD} (h : MS w W gw gr cs r) : MS w W.drew gw gr cs r := ⟨h.qq, h.rr, h.bel.drew, h.h1, h.h2⟩
theorem MS.step {w W W' : World} {gw gr : Nat} {cs : Array Value} {r r' : RD} (h : MS w W gw gr cs r) (h1 : Rdd W' gr r') (h2 : W.grownBy W' (some gr)) : MS w W' gw gr cs r' :=
  ⟨h.qq.grown h2 (by intro e; injection e with e; have := h.h2; omega), h1, below_only h.bel h2 (by have := h.h1; have := h.h2; omega) h.bel.size, h.h1, h.h2⟩
theorem MS.R {w W W' : World} {gw gr : Nat} {cs : Array Value} {r : RD} (h : MS w W gw gr cs r) (h2 : W.grownBy W' (some gr)) : Below gr W W' :=
  below_only (Below.refl gr W) h2 (Nat.le_refl _) (Nat.le_of_lt (Blk.lt h.rr))
theorem MS.alloc {w W : World} {gw gr : Nat} {cs : Array Value} {r : RD} (h : MS w W gw gr cs r) (o : Obj) : MS w (W.alloc o) gw gr cs r ∧ Below gr W (W.alloc o) :=
  ⟨⟨h.qq.alloc o, h.rr.alloc o, bel_alloc h.bel o, h.h1, h.h2⟩, (Below.refl gr W).alloc (Nat.le_of_lt (Blk.lt h.rr)) o⟩
theorem MS.put {w W : World} {gw gr gd : Nat} {cs : Array Value} {r : RD} (h : MS w W gw gr cs r) (hd : gr < gd) (i : Nat) (v : Value) : MS w (W.setCell ⟨gd, i, none⟩ v) gw gr cs r :=
  ⟨Blk.far h.qq (by have := h.h2; simp only; omega) v, Blk.far h.rr (by simp only; omega) v, h.bel.setCell (by have := h.h1; have := h.h2; simp only; omega) v, h.h1, h.h2⟩
theorem below_realloc4 {B : Nat} {w : World} (o o' : Obj) (h : B ≤ w.heap.size) : Below B (w.alloc o) (w.alloc o') :=
  ⟨rfl, rfl, rfl, by simp, fun i hi => (Below.heap_alloc w o' i (by omega)).trans (Below.heap_alloc w o i (by omega)).symm⟩
theorem MS.max {w W : World} {gw gr : Nat} {cs : Array Value} {r : RD} {m : Int} (h : MS w W gw gr cs r) (hm : w.cell? ⟨0, 0, none⟩ = some (.int .i64 m)) : W.cell? ⟨0, 0, none⟩ = some (.int .i64 m) :=
  (h.bel.cell (World.block_lt_of_cell? w _ hm)).trans hm
end Go.Proofs.YtjjlmkleidbmhaaGreatDoor
end
section
section
namespace Go.Proofs.YtjjlmkleidbmhaaGreatDoor
open Go.RowKit Go.Nst
set_option maxRecDepth 100000
set_option linter.unusedVariables false
set_option linter.unusedSimpArgs false

end Go.Proofs.YtjjlmkleidbmhaaGreatDoor
end
section
namespace Go.Proofs.YtjjlmkleidbmhaaGreatDoor
open Go.RowKit Go.Nst
set_option maxRecDepth 100000
set_option linter.unusedVariables false
set_option linter.unusedSimpArgs false

theorem digL_cons : ∀ (z : Nat) (n : Int), digL (z + 1) n = UInt8.ofNat (48 + (n / 10 ^ z % 10).toNat) :: digL z n
  | 0, n => by simp [digL]
  | z + 1, n => by
    have ih := digL_cons z (n / 10)
    rw [digL, ih]
    rw [Int.ediv_ediv_of_nonneg (by omega), show (10 : Int) * 10 ^ z = 10 ^ (z + 1) by rw [Int.pow_succ, Int.mul_comm]]
    rw [digL]
    rfl
theorem st_set (k : Nat) (d : UInt8) (L : List UInt8) : (List.replicate (k + 1) (0 : UInt8) ++ L).set k d = List.replicate k 0 ++ d :: L := by
  rw [List.replicate_succ', List.append_assoc, List.set_append_right _ _ (by simp)]
  simp
set_option maxHeartbeats 4000000 in
theorem digits_any (wide : Nat) (n : Int) (w : World) (h0 : 0 ≤ n) (h1 : n ≤ 100000) (hw : wide ≤ 9)
    (hmk : ∀ W : World, (Instr.makeSlice 70 (.int .i64 (wide : Int)) (.int .i64 (wide : Int))).run Tryz.prog W = .ok (.slice (some ⟨W.heap.size, 0, none⟩) wide wide) (W.alloc (.cells (bv (List.replicate wide 0)).toArray 5))) :
    Calls Tryz.prog 77 #[.int .i64 n, .int .i64 (wide : Int)] w fun e w' => e = .returned (.string ⟨(digL wide n).toArray⟩) ∧ Below w.heap.size w w' := by
  have k1 : IntKind.i64.wrap ((wide : Int) - 1) = (wide : Int) - 1 := IntWalk.i64_in _ (by omega)
  have hO0 : Ow (w.alloc (.cells (bv (List.replicate wide 0)).toArray 5)) w.heap.size (some ⟨w.heap.size, 0, none⟩) wide wide (List.replicate wide 0) := by
    have := lit_made w (List.replicate wide 0) (bv (List.replicate wide 0)).toArray (by simp) (by simp; omega)
    simpa using this
  have B0 := bel_alloc (Below.refl w.heap.size w) (.cells (bv (List.replicate wide 0)).toArray 5)
  obtain ⟨res, hres⟩ : ∃ res, digL wide n = res := ⟨_, rfl⟩
  rw [hres]
  have HRES := Lib.hid hres
  clear hres
  go_enter Tryz.func77, Tryz.ntmps77
  go_wp2_with fail
  go_loopw [0, 6] (fun f i wr => ∃ (z k : Nat) (j q : Int), f = .int .i64 q ∧ q = n / 10 ^ z ∧ i = .int .i64 j ∧ j + 1 = (k : Int) ∧ k + z = wide ∧ 0 ≤ q ∧ q ≤ 100000 ∧ Ow wr w.heap.size (some ⟨w.heap.size, 0, none⟩) wide wide (List.replicate k 0 ++ digL z n) ∧ Below w.heap.size w wr) (fun _ i _ => (intOf i + 1).toNat)
  case atStart => exact ⟨0, wide, _, n, rfl, by simp, rfl, by omega, rfl, h0, h1, by simpa [digL] using hO0, B0⟩
  case round =>
    obtain ⟨z, k, j, q, rfl, hq, rfl, hj, hkz, hq0, hq1, hO, hbw⟩ := hrel
    cases k with
    | zero =>
      obtain rfl : z = wide := by omega
      obtain rfl : j = -1 := by omega
      rw [HRES.out] at hO
      simp only [List.replicate_zero, List.nil_append] at hO
      have hB := hO.bs
      have ks := hB.str (P := Tryz.prog) 70 9 5 z Tryz.underlying70 Tryz.underlying5 Tryz.underlying9
      clear hB hq hkz
      go_wp2_with fail
      go_ret
      exact ⟨rfl, hbw⟩
    | succ k =>
      obtain rfl : j = (k : Int) := by omega
      have d1 : decide ((0 : Int) ≤ (k : Int)) = true := by simp
      have t1 : q.tmod 10 = q % 10 := Int.tmod_eq_emod_of_nonneg hq0
      have t2 : IntKind.i64.wrap (48 + q % 10) = 48 + q % 10 := IntWalk.i64_in _ (by omega)
      have t3 : IntKind.u8.wrap (48 + q % 10) = 48 + q % 10 := IntWalk.u8_in _ (by omega)
      have t4 : IntKind.i64.wrap (q / 10) = q / 10 := IntWalk.i64_in _ (by omega)
      have t5 : IntKind.i64.wrap ((k : Int) - 1) = (k : Int) - 1 := IntWalk.i64_in _ (by omega)
      have hklt : k < wide := by omega
      have hdn : ((UInt8.ofNat (48 + (q % 10).toNat)).toNat : Int) = 48 + q % 10 := by rw [digit_nat]; omega
      have hOn : Ow (wr.setCell ⟨w.heap.size, k, none⟩ (.int .u8 (48 + q % 10))) w.heap.size (some ⟨w.heap.size, 0, none⟩) wide wide (List.replicate k 0 ++ digL (z + 1) n) := by
        have := hO.set k (UInt8.ofNat (48 + (q % 10).toNat))
        rw [hdn, st_set] at this
        rw [digL_cons, ← hq]
        exact this
      have hq2 : q / 10 = n / 10 ^ (z + 1) := by rw [hq, Int.ediv_ediv_of_nonneg (Int.pow_nonneg (by omega)), Int.pow_succ]
      have HQ2 := Lib.hid hq2
      have Bn := hbw.setCell (p := ⟨w.heap.size, k, none⟩) (Nat.le_refl _) (.int .u8 (48 + q % 10))
      obtain ⟨u, hu, hc, hfz, hu2⟩ := hO.cellAt (g := w.heap.size) (j := k) hklt
      clear hu hq hq2 hdn hO hO0 B0
      go_wp2_with fail
      go_roundw
      case rel => exact ⟨z + 1, k, _, _, rfl, HQ2.out, rfl, by omega, by omega, by omega, by omega, hOn, Bn⟩
      case measure => simp [intOf]
theorem digits4_any (n : Int) (w : World) (h0 : 0 ≤ n) (h1 : n ≤ 100000) : Calls Tryz.prog 77 #[.int .i64 n, .int .i64 4] w fun e w' => e = .returned (.string ⟨(digL 4 n).toArray⟩) ∧ Below w.heap.size w w' := digits_any 4 n w h0 h1 (by omega) (fun W => by kernel_rfl)
theorem digits2_any (n : Int) (w : World) (h0 : 0 ≤ n) (h1 : n ≤ 100000) : Calls Tryz.prog 77 #[.int .i64 n, .int .i64 2] w fun e w' => e = .returned (.string ⟨(digL 2 n).toArray⟩) ∧ Below w.heap.size w w' := digits_any 2 n w h0 h1 (by omega) (fun W => by kernel_rfl)
end Go.Proofs.YtjjlmkleidbmhaaGreatDoor
end
section
namespace Go.Proofs.YtjjlmkleidbmhaaGreatDoor
open Go.RowKit Go.Nst
set_option maxRecDepth 100000
set_option linter.unusedVariables false
set_option linter.unusedSimpArgs false

set_option maxHeartbeats 8000000 in
theorem join3_any (gw : Nat) (a b c : List UInt8) (s : UInt8) (w : World) (hq : Blk w gw 9 #[.string ⟨a.toArray⟩, .string ⟨b.toArray⟩, .string ⟨c.toArray⟩]) (ha : a.length ≤ 100) (hb : b.length ≤ 100) (hc : c.length ≤ 100) :
    Calls Tryz.prog 41 #[.slice (some ⟨gw, 0, none⟩) 3 3, .string ⟨#[s]⟩] w (fun e w' => e = .returned (.string ⟨(a ++ s :: (b ++ s :: c)).toArray⟩) ∧ Below w.heap.size w w') := by
  have hg := hq.lt
  have q0 := hq.cell 0
  have q1 := hq.cell 1
  have q2 := hq.cell 2
  simp at q0 q1 q2
  go_enter Tryz.func41, Tryz.ntmps41
  go_wp2_with fail
  go_loop [5, 41] (fun t i => ∃ (k z : Nat), t = .int .i64 (z : Int) ∧ i = .int .i64 (k : Int) ∧ k ≤ 3 ∧ z ≤ 2 + 100 * k) (fun _ i => 3 - (intOf i).toNat)
  case atStart => exact ⟨0, 2, rfl, rfl, by omega, by omega⟩
  case round =>
    obtain ⟨k, z, rfl, rfl, hk, hz⟩ := hrel
    by_cases hk3 : k < 3
    · have hk4 : k = 0 ∨ k = 1 ∨ k = 2 := by omega
      rcases hk4 with rfl | rfl | rfl
      · have t1 : IntKind.i64.wrap (9223372036854775807 - (z : Int)) = 9223372036854775807 - (z : Int) := IntWalk.i64_in _ (by omega)
        have t2 : decide (9223372036854775807 - (z : Int) < (a.length : Int)) = false := by simp; omega
        have t3 : IntKind.i64.wrap ((z : Int) + (a.length : Int)) = ((z + a.length : Nat) : Int) := by rw [IntWalk.i64_in _ (by omega)]; rfl
        go_wp2_with fail
        go_round
        case rel => exact ⟨1, z + a.length, by go_num, by go_num, by omega, by omega⟩
        case measure => simp [intOf]
      · have t1 : IntKind.i64.wrap (9223372036854775807 - (z : Int)) = 9223372036854775807 - (z : Int) := IntWalk.i64_in _ (by omega)
        have t2 : decide (9223372036854775807 - (z : Int) < (b.length : Int)) = false := by simp; omega
        have t3 : IntKind.i64.wrap ((z : Int) + (b.length : Int)) = ((z + b.length : Nat) : Int) := by rw [IntWalk.i64_in _ (by omega)]; rfl
        go_wp2_with fail
        go_round
        case rel => exact ⟨2, z + b.length, by go_num, by go_num, by omega, by omega⟩
        case measure => simp [intOf]
      · have t1 : IntKind.i64.wrap (9223372036854775807 - (z : Int)) = 9223372036854775807 - (z : Int) := IntWalk.i64_in _ (by omega)
        have t2 : decide (9223372036854775807 - (z : Int) < (c.length : Int)) = false := by simp; omega
        have t3 : IntKind.i64.wrap ((z : Int) + (c.length : Int)) = ((z + c.length : Nat) : Int) := by rw [IntWalk.i64_in _ (by omega)]; rfl
        go_wp2_with fail
        go_round
        case rel => exact ⟨3, z + c.length, by go_num, by go_num, by omega, by omega⟩
        case measure => simp [intOf]
    · obtain rfl : k = 3 := by omega
      have B0 := bel_alloc (Below.refl w.heap.size w) (.cells #[.pointer none, .slice none 0 0] 72)
      have HG := Lib.hid (Tryz.Builder_Grow_fresh w.heap.size w.heap.size z (w.alloc (.cells #[.pointer none, .slice none 0 0] 72)) (Nat.le_refl _) (heap_alloc_new w _) B0.size (by omega))
      go_wp2_with fail
      (with_reducible refine (HG.out).mono ?_)
      rintro e w1 ⟨rfl, hG, hb1⟩
      have hB1 : Bd w1 w.heap.size w.heap.size [] := Or.inr (Lib.BuilderAtF.of hG)
      have B1 := B0.trans hb1
      have r0 := (B1.cell (p := ⟨gw, 0, none⟩) hg).trans q0
      clear hG hb1 B0 HG
      go_wp2_with fail
      (with_reducible refine (writeString_k w.heap.size w.heap.size [] a w1 hB1 (by simp; omega) B1.size).mono ?_)
      rintro e w2 ⟨rfl, hB2, hb2, _⟩
      have B2 := B1.trans hb2
      clear hB1 hb2 B1 r0
      go_wp2_with fail
      go_loopw [65] (fun i wr2 => ∃ (k : Nat) (L : List UInt8), i = .int .i64 (k : Int) ∧ k ≤ 2 ∧ Bd wr2 w.heap.size w.heap.size L ∧ Below w.heap.size w wr2 ∧ L.length ≤ 1000 ∧ (k = 0 → L = a) ∧ (k = 1 → L = a ++ s :: b) ∧ (k = 2 → L = a ++ s :: (b ++ s :: c))) (fun i _ => 2 - (intOf i).toNat)
      case atStart => exact ⟨0, a, rfl, by omega, by simpa using hB2, B2, by omega, fun _ => rfl, by omega, by omega⟩
      case round =>
        clear hB2 B2
        obtain ⟨k, L, rfl, hk, hB, hbw, hL, h0, h1, h2⟩ := hrel
        have r1 := (hbw.cell (p := ⟨gw, 1, none⟩) hg).trans q1
        have r2 := (hbw.cell (p := ⟨gw, 2, none⟩) hg).trans q2
        have hk4 : k = 0 ∨ k = 1 ∨ k = 2 := by omega
        rcases hk4 with rfl | rfl | rfl
        · obtain rfl := h0 rfl
          clear h0 h1 h2
          have HS := Lib.hid (writeString_k w.heap.size w.heap.size L [s] wr hB (by simp; omega) hbw.size)
          go_wp2_with fail
          (with_reducible refine (HS.out).mono ?_)
          rintro e w3 ⟨rfl, hB3, hb3, _⟩
          have B3 := hbw.trans hb3
          have HS2 := Lib.hid (writeString_k w.heap.size w.heap.size (L ++ [s]) b w3 hB3 (by simp; omega) B3.size)
          go_wp2_with fail
          (with_reducible refine (HS2.out).mono ?_)
          rintro e w4 ⟨rfl, hB4, hb4, _⟩
          have B4 := B3.trans hb4
          go_wp2_with fail
          go_roundw
          case rel => exact ⟨1, L ++ s :: b, by go_num, by omega, by simpa using hB4, B4, by simp; omega, by omega, fun _ => rfl, by omega⟩
          case measure => simp [intOf]
        · obtain rfl := h1 rfl
          clear h0 h1 h2
          have HS := Lib.hid (writeString_k w.heap.size w.heap.size (a ++ s :: b) [s] wr hB (by simp; omega) hbw.size)
          go_wp2_with fail
          (with_reducible refine (HS.out).mono ?_)
          rintro e w3 ⟨rfl, hB3, hb3, _⟩
          have B3 := hbw.trans hb3
          have HS2 := Lib.hid (writeString_k w.heap.size w.heap.size (a ++ s :: b ++ [s]) c w3 hB3 (by simp; omega) B3.size)
          go_wp2_with fail
          (with_reducible refine (HS2.out).mono ?_)
          rintro e w4 ⟨rfl, hB4, hb4, _⟩
          have B4 := B3.trans hb4
          go_wp2_with fail
          go_roundw
          case rel => exact ⟨2, a ++ s :: (b ++ s :: c), by go_num, by omega, by simpa using hB4, B4, by simp; omega, by omega, by omega, fun _ => rfl⟩
          case measure => simp [intOf]
        · obtain rfl := h2 rfl
          clear h0 h1 h2
          have HS := Lib.hid (bString_k w.heap.size w.heap.size _ wr hB hbw.size)
          go_wp2_with fail
          (with_reducible refine (HS.out).mono ?_)
          rintro e w3 ⟨rfl, hB3, hb3, _⟩
          go_wp2_with fail
          go_ret
          exact ⟨rfl, hbw.trans hb3⟩
end Go.Proofs.YtjjlmkleidbmhaaGreatDoor
end
section
namespace Go.Proofs.YtjjlmkleidbmhaaGreatDoor
open Go.RowKit Go.Nst
set_option maxRecDepth 100000
set_option linter.unusedVariables false
set_option linter.unusedSimpArgs false

theorem ba_app (a b : List UInt8) : (ByteArray.mk a.toArray) ++ (ByteArray.mk b.toArray) = ⟨(a ++ b).toArray⟩ := by
  apply ByteArray.ext
  simp [ByteArray.data_append]
set_option maxHeartbeats 8000000 in
theorem show_yes (n : Int) (w : World) (h : mayM n = true) : Calls Tryz.prog 61 #[.int .i64 n] w fun e w' => e = .returned (.string ⟨(showT (ofD n)).toArray⟩) ∧ Below w.heap.size w w' := by
  have HO := Lib.hid (of_yes n w h)
  have hok := (ofD_ok h).1
  have h1 := ok_ym hok
  have h2 := (ok_iff _).1 hok
  have h3 := daysM_bd (ofD n).y (ofD n).m
  clear h hok
  generalize ofD n = x at *
  obtain ⟨y, m, d, h_, mi, s⟩ := x
  simp only at h1 h2 h3
  have hy : 0 ≤ y ∧ y ≤ 100000 := by omega
  have hm : 0 ≤ m ∧ m ≤ 100000 := by omega
  have hd : 0 ≤ d ∧ d ≤ 100000 := by omega
  have hh : 0 ≤ h_ ∧ h_ ≤ 100000 := by omega
  have hmi : 0 ≤ mi ∧ mi ≤ 100000 := by omega
  have hs : 0 ≤ s ∧ s ≤ 100000 := by omega
  clear h1 h2 h3
  have DY := Lib.hid (fun W => digits4_any y W hy.1 hy.2)
  have DM := Lib.hid (fun W => digits2_any m W hm.1 hm.2)
  have DD := Lib.hid (fun W => digits2_any d W hd.1 hd.2)
  have DH := Lib.hid (fun W => digits2_any h_ W hh.1 hh.2)
  have DI := Lib.hid (fun W => digits2_any mi W hmi.1 hmi.2)
  have DS := Lib.hid (fun W => digits2_any s W hs.1 hs.2)
  have HV : Hid (showT ⟨y, m, d, h_, mi, s⟩ = digL 4 y ++ 45 :: (digL 2 m ++ 45 :: (digL 2 d ++ 84 :: (digL 2 h_ ++ 58 :: (digL 2 mi ++ 58 :: (digL 2 s ++ [90])))))) := rfl
  have ly := digL_len 4 y
  have lm := digL_len 2 m
  have ld := digL_len 2 d
  have lh := digL_len 2 h_
  have li := digL_len 2 mi
  have ls := digL_len 2 s
  generalize digL 4 y = ty at *
  generalize digL 2 m = tm at *
  generalize digL 2 d = td at *
  generalize digL 2 h_ = th at *
  generalize digL 2 mi = ti at *
  generalize digL 2 s = ts at *
  simp only [Dt.val, Dt.cells] at HO
  generalize showT ⟨y, m, d, h_, mi, s⟩ = res at *
  clear hy hm hd hh hmi hs
  go_enter Tryz.func61, Tryz.ntmps61
  go_wp2_with fail
  (with_reducible refine (HO.out).mono ?_)
  rintro e w1 ⟨rfl, hb1⟩
  have B1 := bel_alloc hb1 (.cells #[.int .i64 y, .int .i64 m, .int .i64 d, .int .i64 h_, .int .i64 mi, .int .i64 s] 80)
  have hx := Blk.new w1 80 #[.int .i64 y, .int .i64 m, .int .i64 d, .int .i64 h_, .int .i64 mi, .int .i64 s]
  obtain ⟨gd, hgd⟩ : ∃ gd, gd = w1.heap.size := ⟨_, rfl⟩
  go_wp2_with fail
  rw [← hgd] at hx
  simp only [← hgd]
  generalize w1.alloc (.cells #[.int .i64 y, .int .i64 m, .int .i64 d, .int .i64 h_, .int .i64 mi, .int .i64 s] 80) = w2 at *
  clear hgd hb1
  refine wp_region_seq (by kernel_rfl) [(0, true), (1, true), (3, true), (4, true), (6, true), (7, true), (2, false), (5, false), (8, false), (9, false), (10, true)] (by kernel_rfl) rfl (by kernel_rfl) ?_
  intro w3a hb
  have hx_ := hx.below hb hx.lt
  have B_ := bel_step B1 hb
  have c0 := fun W (hW : Below w3a.heap.size w3a W) => (show W.cell? ⟨gd, 0, none⟩ = some (.int .i64 y) from ((hx_.below hW hx_.lt).cell 0).trans rfl)
  have c1 := fun W (hW : Below w3a.heap.size w3a W) => (show W.cell? ⟨gd, 1, none⟩ = some (.int .i64 m) from ((hx_.below hW hx_.lt).cell 1).trans rfl)
  have c2 := fun W (hW : Below w3a.heap.size w3a W) => (show W.cell? ⟨gd, 2, none⟩ = some (.int .i64 d) from ((hx_.below hW hx_.lt).cell 2).trans rfl)
  clear hb
  iterate 6 (refine wpSeq_take (o := ⟨_, _, _, _, _, _⟩) (v := ?_) rfl rfl ?_ ?_; rotate_left; (focus (intro W hW; go_simp; first | done | with_reducible rfl)); simp only [Act.put, List.setIfInBounds_toArray, List.set_cons_zero, List.set_cons_succ])
  clear c0 c1 c2
  refine wpSeq_exec (o := ⟨_, _, _, _, _, _⟩) rfl rfl (fun K hK => ?_)
  go_simp
  (with_reducible refine (DY.out w3a).mono ?_)
  rintro e w3b ⟨rfl, hb⟩
  go_wp2_with fail
  refine hK _ _ hb ?_
  clear hK K
  have hx_ := hx_.below hb hx_.lt
  have B_ := bel_step B_ hb
  clear hb
  refine wpSeq_exec (o := ⟨_, _, _, _, _, _⟩) rfl rfl (fun K hK => ?_)
  go_simp
  (with_reducible refine (DM.out w3b).mono ?_)
  rintro e w3c ⟨rfl, hb⟩
  go_wp2_with fail
  refine hK _ _ hb ?_
  clear hK K
  have hx_ := hx_.below hb hx_.lt
  have B_ := bel_step B_ hb
  clear hb
  refine wpSeq_exec (o := ⟨_, _, _, _, _, _⟩) rfl rfl (fun K hK => ?_)
  go_simp
  (with_reducible refine (DD.out w3c).mono ?_)
  rintro e w3d ⟨rfl, hb⟩
  go_wp2_with fail
  refine hK _ _ hb ?_
  clear hK K
  have hx_ := hx_.below hb hx_.lt
  have B_ := bel_step B_ hb
  clear hb
  refine wpSeq_exec (o := ⟨_, _, _, _, _, _⟩) rfl rfl (fun K hK => ?_)
  go_simp
  refine hK _ _ (bel_alloc (Below.refl w3d.heap.size w3d) (.cells #[.string ⟨ty.toArray⟩, .string ⟨tm.toArray⟩, .string ⟨td.toArray⟩] 9)) ?_
  clear hK K
  have q1_x := hx_.alloc (.cells #[.string ⟨ty.toArray⟩, .string ⟨tm.toArray⟩, .string ⟨td.toArray⟩] 9)
  have q1_B := bel_alloc B_ (.cells #[.string ⟨ty.toArray⟩, .string ⟨tm.toArray⟩, .string ⟨td.toArray⟩] 9)
  have q1_q := Blk.new w3d 9 #[.string ⟨ty.toArray⟩, .string ⟨tm.toArray⟩, .string ⟨td.toArray⟩]
  obtain ⟨q1_g, hg⟩ : ∃ g, g = w3d.heap.size := ⟨_, rfl⟩
  rw [← hg] at q1_q
  simp only [← hg]
  generalize w3d.alloc (.cells #[.string ⟨ty.toArray⟩, .string ⟨tm.toArray⟩, .string ⟨td.toArray⟩] 9) = w3 at *
  clear hg hx_ B_
  iterate 1 (refine wpSeq_take (o := ⟨_, _, _, _, _, _⟩) (v := ?_) rfl rfl ?_ ?_; rotate_left; (focus (intro W hW; go_simp; first | done | with_reducible rfl)); simp only [Act.put, List.setIfInBounds_toArray, List.set_cons_zero, List.set_cons_succ])
  refine wpSeq_nil ?_
  go_wp2_with fail
  refine wp_region_seq (by kernel_rfl) [(0, true), (1, true), (3, true), (4, true), (6, true), (7, true), (2, false), (5, false), (8, false), (9, false), (10, true)] (by kernel_rfl) rfl (by kernel_rfl) ?_
  intro w4a hb
  have hx_ := q1_x.below hb q1_x.lt
  have B_ := bel_step q1_B hb
  have q1_q := q1_q.below hb q1_q.lt
  have c0 := fun W (hW : Below w4a.heap.size w4a W) => (show W.cell? ⟨gd, 3, none⟩ = some (.int .i64 h_) from ((hx_.below hW hx_.lt).cell 3).trans rfl)
  have c1 := fun W (hW : Below w4a.heap.size w4a W) => (show W.cell? ⟨gd, 4, none⟩ = some (.int .i64 mi) from ((hx_.below hW hx_.lt).cell 4).trans rfl)
  have c2 := fun W (hW : Below w4a.heap.size w4a W) => (show W.cell? ⟨gd, 5, none⟩ = some (.int .i64 s) from ((hx_.below hW hx_.lt).cell 5).trans rfl)
  clear hb
  iterate 6 (refine wpSeq_take (o := ⟨_, _, _, _, _, _⟩) (v := ?_) rfl rfl ?_ ?_; rotate_left; (focus (intro W hW; go_simp; first | done | with_reducible rfl)); simp only [Act.put, List.setIfInBounds_toArray, List.set_cons_zero, List.set_cons_succ])
  clear c0 c1 c2
  refine wpSeq_exec (o := ⟨_, _, _, _, _, _⟩) rfl rfl (fun K hK => ?_)
  go_simp
  (with_reducible refine (DH.out w4a).mono ?_)
  rintro e w4b ⟨rfl, hb⟩
  go_wp2_with fail
  refine hK _ _ hb ?_
  clear hK K
  have hx_ := hx_.below hb hx_.lt
  have B_ := bel_step B_ hb
  have q1_q := q1_q.below hb q1_q.lt
  clear hb
  refine wpSeq_exec (o := ⟨_, _, _, _, _, _⟩) rfl rfl (fun K hK => ?_)
  go_simp
  (with_reducible refine (DI.out w4b).mono ?_)
  rintro e w4c ⟨rfl, hb⟩
  go_wp2_with fail
  refine hK _ _ hb ?_
  clear hK K
  have hx_ := hx_.below hb hx_.lt
  have B_ := bel_step B_ hb
  have q1_q := q1_q.below hb q1_q.lt
  clear hb
  refine wpSeq_exec (o := ⟨_, _, _, _, _, _⟩) rfl rfl (fun K hK => ?_)
  go_simp
  (with_reducible refine (DS.out w4c).mono ?_)
  rintro e w4d ⟨rfl, hb⟩
  go_wp2_with fail
  refine hK _ _ hb ?_
  clear hK K
  have hx_ := hx_.below hb hx_.lt
  have B_ := bel_step B_ hb
  have q1_q := q1_q.below hb q1_q.lt
  clear hb
  refine wpSeq_exec (o := ⟨_, _, _, _, _, _⟩) rfl rfl (fun K hK => ?_)
  go_simp
  refine hK _ _ (bel_alloc (Below.refl w4d.heap.size w4d) (.cells #[.string ⟨th.toArray⟩, .string ⟨ti.toArray⟩, .string ⟨ts.toArray⟩] 9)) ?_
  clear hK K
  have q1_q := q1_q.alloc (.cells #[.string ⟨th.toArray⟩, .string ⟨ti.toArray⟩, .string ⟨ts.toArray⟩] 9)
  have q2_x := hx_.alloc (.cells #[.string ⟨th.toArray⟩, .string ⟨ti.toArray⟩, .string ⟨ts.toArray⟩] 9)
  have q2_B := bel_alloc B_ (.cells #[.string ⟨th.toArray⟩, .string ⟨ti.toArray⟩, .string ⟨ts.toArray⟩] 9)
  have q2_q := Blk.new w4d 9 #[.string ⟨th.toArray⟩, .string ⟨ti.toArray⟩, .string ⟨ts.toArray⟩]
  obtain ⟨q2_g, hg⟩ : ∃ g, g = w4d.heap.size := ⟨_, rfl⟩
  rw [← hg] at q2_q
  simp only [← hg]
  generalize w4d.alloc (.cells #[.string ⟨th.toArray⟩, .string ⟨ti.toArray⟩, .string ⟨ts.toArray⟩] 9) = w4 at *
  clear hg hx_ B_
  iterate 1 (refine wpSeq_take (o := ⟨_, _, _, _, _, _⟩) (v := ?_) rfl rfl ?_ ?_; rotate_left; (focus (intro W hW; go_simp; first | done | with_reducible rfl)); simp only [Act.put, List.setIfInBounds_toArray, List.set_cons_zero, List.set_cons_succ])
  refine wpSeq_nil ?_
  go_wp2_with fail
  have HJ := Lib.hid (join3_any q1_g ty tm td 45 w4 q1_q (by omega) (by omega) (by omega))
  (with_reducible refine (HJ.out).mono ?_)
  rintro e w5 ⟨rfl, hb5⟩
  have q2_q := q2_q.below hb5 q2_q.lt
  have B5 := bel_step q2_B hb5
  have HJ2 := Lib.hid (join3_any q2_g th ti ts 58 w5 q2_q (by omega) (by omega) (by omega))
  go_wp2_with fail
  (with_reducible refine (HJ2.out).mono ?_)
  rintro e w6 ⟨rfl, hb6⟩
  go_wp2_with fail
  go_ret
  rw [HV.out]
  exact ⟨by rw [show (ByteArray.mk #[84]) = ⟨[84].toArray⟩ from rfl, show (ByteArray.mk #[90]) = ⟨[90].toArray⟩ from rfl, ba_app, ba_app, ba_app]; simp, bel_step B5 hb6⟩
end Go.Proofs.YtjjlmkleidbmhaaGreatDoor
end
section
namespace Go.Proofs.YtjjlmkleidbmhaaGreatDoor
open Go.RowKit Go.Nst
set_option maxRecDepth 100000
set_option linter.unusedVariables false
set_option linter.unusedSimpArgs false

/-- the cell of internal/bytealg.MaxLen -/
def MM (m : Int) (w : World) : Prop := w.cell? ⟨0, 0, none⟩ = some (.int .i64 m)
theorem MM.keep {m : Int} {w W : World} (h : MM m w) (hb : Below w.heap.size w W) : MM m W := (hb.cell (p := ⟨0, 0, none⟩) (World.block_lt_of_cell? w _ h)).trans h
end Go.Proofs.YtjjlmkleidbmhaaGreatDoor
end
end
section
namespace Go.Proofs.YtjjlmkleidbmhaaGreatDoor
open Go.ChangeShapes Go.WideShapes Go.ChangeAt Go.Deep
open Go.RowKit Go.Nst
set_option maxRecDepth 100000
set_option linter.unusedVariables false
set_option linter.unusedSimpArgs false

theorem leaf26_all (A : Option Addr) (k c : Nat) (w : World) : Calls Tryz.prog 42 #[.agg #[.int .i64 1, .int .i64 0, .string ⟨#[]⟩, .slice A k c]] w fun e w' => e = .returned (.string ⟨(tAll).toArray⟩) ∧ Below w.heap.size w w' := by
  have B0 := bel_alloc (Below.refl w.heap.size w) (.cells #[.int .i64 1, .int .i64 0, .string ⟨#[]⟩, .slice A k c] 25)
  go_enter Tryz.func42, Tryz.ntmps42
  go_wp2_with fail
  go_ret
  exact ⟨rfl, B0⟩
theorem leaf26_none (A : Option Addr) (k c : Nat) (w : World) : Calls Tryz.prog 42 #[.agg #[.int .i64 2, .int .i64 0, .string ⟨#[]⟩, .slice A k c]] w fun e w' => e = .returned (.string ⟨(tNon).toArray⟩) ∧ Below w.heap.size w w' := by
  have B0 := bel_alloc (Below.refl w.heap.size w) (.cells #[.int .i64 2, .int .i64 0, .string ⟨#[]⟩, .slice A k c] 25)
  go_enter Tryz.func42, Tryz.ntmps42
  go_wp2_with fail
  go_ret
  exact ⟨rfl, B0⟩
theorem leaf26_unread (A : Option Addr) (k c : Nat) (w : World) : Calls Tryz.prog 42 #[.agg #[.int .i64 9, .int .i64 0, .string ⟨#[]⟩, .slice A k c]] w fun e w' => e = .returned (.string ⟨(tUnr).toArray⟩) ∧ Below w.heap.size w w' := by
  have B0 := bel_alloc (Below.refl w.heap.size w) (.cells #[.int .i64 9, .int .i64 0, .string ⟨#[]⟩, .slice A k c] 25)
  go_enter Tryz.func42, Tryz.ntmps42
  go_wp2_with fail
  go_ret
  exact ⟨rfl, B0⟩
theorem leaf26_starred (A : Option Addr) (k c : Nat) (w : World) : Calls Tryz.prog 42 #[.agg #[.int .i64 10, .int .i64 0, .string ⟨#[]⟩, .slice A k c]] w fun e w' => e = .returned (.string ⟨(tSta).toArray⟩) ∧ Below w.heap.size w w' := by
  have B0 := bel_alloc (Below.refl w.heap.size w) (.cells #[.int .i64 10, .int .i64 0, .string ⟨#[]⟩, .slice A k c] 25)
  go_enter Tryz.func42, Tryz.ntmps42
  go_wp2_with fail
  go_ret
  exact ⟨rfl, B0⟩
theorem leaf26_feed (n : Int) (A : Option Addr) (k c : Nat) (w : World) (h0 : 0 ≤ n) (h1 : n ≤ 1048576) (hW : QpW w) : Calls Tryz.prog 42 #[.agg #[.int .i64 6, .int .i64 n, .string ⟨#[]⟩, .slice A k c]] w fun e w' => e = .returned (.string ⟨(pFee ++ Lib.itoa n).toArray⟩) ∧ Below w.heap.size w w' := by
  have B0 := bel_alloc (Below.refl w.heap.size w) (.cells #[.int .i64 6, .int .i64 n, .string ⟨#[]⟩, .slice A k c] 25)
  have HC := Lib.hid (itoa26_any n _ (by omega) (by omega) (hW.keep B0))
  have hl := Lib.itoa_length_le n (by omega) (by omega)
  have HB0 := Lib.hid B0
  generalize Lib.itoa n = t at *
  have hz : (ByteArray.mk t.toArray).size = t.length := size_of t
  clear hW B0
  go_enter Tryz.func42, Tryz.ntmps42
  go_wp2_with fail
  (with_reducible refine (HC.out).mono ?_)
  rintro _ w1 ⟨rfl, hb1⟩
  go_wp2_with fail
  go_ret
  exact ⟨by rw [← ba_app26]; rfl, bel_step HB0.out hb1⟩
theorem leaf26_folder (n : Int) (A : Option Addr) (k c : Nat) (w : World) (h0 : 0 ≤ n) (h1 : n ≤ 1048576) (hW : QpW w) : Calls Tryz.prog 42 #[.agg #[.int .i64 7, .int .i64 n, .string ⟨#[]⟩, .slice A k c]] w fun e w' => e = .returned (.string ⟨(pFol ++ Lib.itoa n).toArray⟩) ∧ Below w.heap.size w w' := by
  have B0 := bel_alloc (Below.refl w.heap.size w) (.cells #[.int .i64 7, .int .i64 n, .string ⟨#[]⟩, .slice A k c] 25)
  have HC := Lib.hid (itoa26_any n _ (by omega) (by omega) (hW.keep B0))
  have hl := Lib.itoa_length_le n (by omega) (by omega)
  have HB0 := Lib.hid B0
  generalize Lib.itoa n = t at *
  have hz : (ByteArray.mk t.toArray).size = t.length := size_of t
  clear hW B0
  go_enter Tryz.func42, Tryz.ntmps42
  go_wp2_with fail
  (with_reducible refine (HC.out).mono ?_)
  rintro _ w1 ⟨rfl, hb1⟩
  go_wp2_with fail
  go_ret
  exact ⟨by rw [← ba_app26]; rfl, bel_step HB0.out hb1⟩
theorem leaf26_within (n : Int) (A : Option Addr) (k c : Nat) (w : World) (h0 : 0 ≤ n) (h1 : n ≤ 1048576) (hW : QpW w) : Calls Tryz.prog 42 #[.agg #[.int .i64 15, .int .i64 n, .string ⟨#[]⟩, .slice A k c]] w fun e w' => e = .returned (.string ⟨(pWit ++ Lib.itoa n).toArray⟩) ∧ Below w.heap.size w w' := by
  have B0 := bel_alloc (Below.refl w.heap.size w) (.cells #[.int .i64 15, .int .i64 n, .string ⟨#[]⟩, .slice A k c] 25)
  have HC := Lib.hid (itoa26_any n _ (by omega) (by omega) (hW.keep B0))
  have hl := Lib.itoa_length_le n (by omega) (by omega)
  have HB0 := Lib.hid B0
  generalize Lib.itoa n = t at *
  have hz : (ByteArray.mk t.toArray).size = t.length := size_of t
  clear hW B0
  go_enter Tryz.func42, Tryz.ntmps42
  go_wp2_with fail
  (with_reducible refine (HC.out).mono ?_)
  rintro _ w1 ⟨rfl, hb1⟩
  go_wp2_with fail
  go_ret
  exact ⟨by rw [← ba_app26]; rfl, bel_step HB0.out hb1⟩
theorem leaf26_before (n : Int) (A : Option Addr) (k c : Nat) (w : World) (hm : mayM n = true) : Calls Tryz.prog 42 #[.agg #[.int .i64 13, .int .i64 n, .string ⟨#[]⟩, .slice A k c]] w fun e w' => e = .returned (.string ⟨(pBef ++ showT (ofD n)).toArray⟩) ∧ Below w.heap.size w w' := by
  have B0 := bel_alloc (Below.refl w.heap.size w) (.cells #[.int .i64 13, .int .i64 n, .string ⟨#[]⟩, .slice A k c] 25)
  have HC := Lib.hid (fun W => show_yes n W hm)
  have hl := (showT_run (ofD n)).2
  have HB0 := Lib.hid B0
  generalize showT (ofD n) = t at *
  have hz : (ByteArray.mk t.toArray).size = t.length := size_of t
  clear hm B0
  go_enter Tryz.func42, Tryz.ntmps42
  go_wp2_with fail
  (with_reducible refine (HC.out _).mono ?_)
  rintro _ w1 ⟨rfl, hb1⟩
  go_wp2_with fail
  go_ret
  exact ⟨by rw [← ba_app26]; rfl, bel_step HB0.out hb1⟩
theorem leaf26_since (n : Int) (A : Option Addr) (k c : Nat) (w : World) (hm : mayM n = true) : Calls Tryz.prog 42 #[.agg #[.int .i64 14, .int .i64 n, .string ⟨#[]⟩, .slice A k c]] w fun e w' => e = .returned (.string ⟨(pSin ++ showT (ofD n)).toArray⟩) ∧ Below w.heap.size w w' := by
  have B0 := bel_alloc (Below.refl w.heap.size w) (.cells #[.int .i64 14, .int .i64 n, .string ⟨#[]⟩, .slice A k c] 25)
  have HC := Lib.hid (fun W => show_yes n W hm)
  have hl := (showT_run (ofD n)).2
  have HB0 := Lib.hid B0
  generalize showT (ofD n) = t at *
  have hz : (ByteArray.mk t.toArray).size = t.length := size_of t
  clear hm B0
  go_enter Tryz.func42, Tryz.ntmps42
  go_wp2_with fail
  (with_reducible refine (HC.out _).mono ?_)
  rintro _ w1 ⟨rfl, hb1⟩
  go_wp2_with fail
  go_ret
  exact ⟨by rw [← ba_app26]; rfl, bel_step HB0.out hb1⟩
theorem leaf26_tag (s : List UInt8) (A : Option Addr) (k c : Nat) (w : World) (hs : s.length ≤ 20000) : Calls Tryz.prog 42 #[.agg #[.int .i64 8, .int .i64 0, .string ⟨s.toArray⟩, .slice A k c]] w fun e w' => e = .returned (.string ⟨(pTag ++ s).toArray⟩) ∧ Below w.heap.size w w' := by
  have B0 := bel_alloc (Below.refl w.heap.size w) (.cells #[.int .i64 8, .int .i64 0, .string ⟨s.toArray⟩, .slice A k c] 25)
  have hz : (ByteArray.mk s.toArray).size = s.length := size_of s
  go_enter Tryz.func42, Tryz.ntmps42
  go_wp2_with fail
  go_ret
  exact ⟨by rw [← ba_app26]; rfl, B0⟩
theorem leaf26_word (s : List UInt8) (A : Option Addr) (k c : Nat) (w : World) (hs : s.length ≤ 20000) : Calls Tryz.prog 42 #[.agg #[.int .i64 11, .int .i64 0, .string ⟨s.toArray⟩, .slice A k c]] w fun e w' => e = .returned (.string ⟨(pWor ++ s).toArray⟩) ∧ Below w.heap.size w w' := by
  have B0 := bel_alloc (Below.refl w.heap.size w) (.cells #[.int .i64 11, .int .i64 0, .string ⟨s.toArray⟩, .slice A k c] 25)
  have hz : (ByteArray.mk s.toArray).size = s.length := size_of s
  go_enter Tryz.func42, Tryz.ntmps42
  go_wp2_with fail
  go_ret
  exact ⟨by rw [← ba_app26]; rfl, B0⟩
theorem leaf26_begins (s : List UInt8) (A : Option Addr) (k c : Nat) (w : World) (hs : s.length ≤ 20000) : Calls Tryz.prog 42 #[.agg #[.int .i64 12, .int .i64 0, .string ⟨s.toArray⟩, .slice A k c]] w fun e w' => e = .returned (.string ⟨(pBeg ++ s).toArray⟩) ∧ Below w.heap.size w w' := by
  have B0 := bel_alloc (Below.refl w.heap.size w) (.cells #[.int .i64 12, .int .i64 0, .string ⟨s.toArray⟩, .slice A k c] 25)
  have hz : (ByteArray.mk s.toArray).size = s.length := size_of s
  go_enter Tryz.func42, Tryz.ntmps42
  go_wp2_with fail
  go_ret
  exact ⟨by rw [← ba_app26]; rfl, B0⟩
theorem leaf26_any (o n : Int) (s : List UInt8) (A : Option Addr) (k c : Nat) (w : World) (hW : QpW w) (h3 : o ≠ 3) (h4 : o ≠ 4) (h5 : o ≠ 5) (h : oneQ o n s 0 = true) : Calls Tryz.prog 42 #[.agg #[.int .i64 o, .int .i64 n, .string ⟨s.toArray⟩, .slice A k c]] w fun e w' => e = .returned (.string ⟨(leafD o n s).toArray⟩) ∧ Below w.heap.size w w' := by
  have hs := leaf_short h3 h4 h5 h
  rcases leaf_cases h3 h4 h5 h with ⟨ho, rfl, rfl⟩ | ⟨ho, h0, h1, rfl⟩ | ⟨ho, hm, rfl⟩ | ⟨ho, rfl, hw⟩
  · rcases ho with rfl | rfl | rfl | rfl
    · exact leaf26_all A k c w
    · exact leaf26_none A k c w
    · exact leaf26_unread A k c w
    · exact leaf26_starred A k c w
  · rcases ho with rfl | rfl | rfl
    · exact leaf26_feed n A k c w h0 h1 hW
    · exact leaf26_folder n A k c w h0 h1 hW
    · exact leaf26_within n A k c w h0 h1 hW
  · rcases ho with rfl | rfl
    · exact leaf26_before n A k c w hm
    · exact leaf26_since n A k c w hm
  · rcases ho with rfl | rfl | rfl
    · exact leaf26_tag s A k c w (by omega)
    · exact leaf26_word s A k c w (by omega)
    · exact leaf26_begins s A k c w (by omega)
end Go.Proofs.YtjjlmkleidbmhaaGreatDoor
end
