/-
  Contracts of utf at texts as lists; what is clean stays so; lengths.
  What a version tells, as values of an interface: made, next, of.
  (one).next, of.
-/
import Derived.Test.YtfepinnfhcjopaaGreatDoorUt2
import Derived.Test.YtfepinnfhcjopaaGreatDoorOlA
section
namespace Go.Proofs.YtfepinnfhcjopaaGreatDoor
open Go.RowKit Go.Nst
set_option maxRecDepth 100000
set_option linter.unusedVariables false
set_option linter.unusedSimpArgs false

theorem clean_l (l : List UInt8) (w : World) (hl : l.length ≤ 1000000) : Calls Tryz.prog 138 #[.string ⟨l.toArray⟩] w (RetS w (cleanT l)) := by
  have := clean_any ⟨l.toArray⟩ w (by rw [size_of]; exact hl)
  rwa [bl_of] at this
theorem fold_l (l : List UInt8) (w : World) (hl : l.length ≤ 1000000) : Calls Tryz.prog 151 #[.string ⟨l.toArray⟩] w (RetS w (foldT l)) := by
  have := fold_any5 ⟨l.toArray⟩ w (by rw [size_of]; exact hl)
  rwa [bl_of] at this
theorem right_l (l : List UInt8) (w : World) (hl : l.length ≤ 1000000) (b : Bool) (hb : rightL l = b) : Calls Tryz.prog 137 #[.string ⟨l.toArray⟩] w fun e w' => e = .returned (.bool b) ∧ Below w.heap.size w w' := by
  have := right_any ⟨l.toArray⟩ w (by rw [size_of]; exact hl)
  rwa [bl_of, hb] at this
theorem cut_l (l : List UInt8) (n : Int) (w : World) (hl : l.length ≤ 1000000) (h0 : -9223372036854775808 ≤ n) (h1 : n ≤ 9223372036854775807) : Calls Tryz.prog 181 #[.string ⟨l.toArray⟩, .int .i64 n] w (RetS w (cutT l n)) := by
  have := cut_any ⟨l.toArray⟩ n w (by rw [size_of]; exact hl) h0 h1
  rwa [bl_of] at this
theorem cleanT_again (l : List UInt8) : cleanT (cleanT l) = cleanT l := by
  unfold cleanT
  rw [runes_put_ok _ (clean_ok _ (runes_ok l)), clean_again]
theorem foldT_again (l : List UInt8) : foldT (foldT l) = foldT l := by
  unfold foldT
  rw [runes_put_ok _ (foldC_ok _ (runes_ok l)), List.map_map]
  congr 2
  funext c
  exact foldC_again c
theorem foldT_count (l : List UInt8) : (runesL (foldT l)).length = (runesL l).length := by
  rw [← runesI_len, ← runesI_len]
  unfold foldT
  rw [runes_put_ok _ (foldC_ok _ (runes_ok l)), List.length_map]
theorem cleanT_len (l : List UInt8) : (cleanT l).length ≤ 8 * l.length := by
  unfold cleanT
  have h1 := putR_len (cleanR (runesI l))
  have h2 := cleanF_len (runesI l)
  have h3 := runesI_le l
  have h4 : (cleanR (runesI l)).length = (cleanF (runesI l)).1.length := rfl
  omega
theorem foldT_len (l : List UInt8) : (foldT l).length ≤ 4 * l.length := by
  unfold foldT
  have h1 := putR_len ((runesI l).map foldC)
  rw [List.length_map] at h1
  have h3 := runesI_le l
  omega

theorem cutT_len (l : List UInt8) (n : Int) : (cutT l n).length ≤ l.length := by unfold cutT; rw [List.length_take]; omega
end Go.Proofs.YtfepinnfhcjopaaGreatDoor
end
section
namespace Go.Proofs.YtfepinnfhcjopaaGreatDoor
open Go.RowKit Go.Nst
set_option maxRecDepth 100000
set_option linter.unusedVariables false
set_option linter.unusedSimpArgs false

theorem own_lit (w : World) {base : Nat} (e : TypeId) (s n : Nat) (xs : List Value) (cs : Array Value) (hcs : cs.toList = xs) (hl : xs.length = n * s) (hn : n ≤ 1000) (hb : base ≤ w.heap.size) : (w.alloc (.cells cs e)).ownsRow base e s (.slice (some ⟨w.heap.size, 0, none⟩) n n) n xs :=
  ⟨by rw [hl], .inr ⟨w.heap.size, n, cs, rfl, hb, heap_alloc_new w _, Nat.le_refl _, by unfold maxLen; omega, by rw [← Array.length_toList, hcs, hl], by rw [hcs, List.take_of_length_le (by rw [hl]; exact Nat.le_refl _)]⟩⟩
/-- a row of the call's own: n elements of s cells each -/
def RetRow (E : TypeId) (s : Nat) (w : World) (n : Nat) (xs : List Value) (e : Ending) (w' : World) : Prop := ∃ A c, e = .returned (.slice A n c) ∧ w'.ownsRow w.heap.size E s (.slice A n c) n xs ∧ Below w.heap.size w w'
theorem RetRow.nil {E : TypeId} {s : Nat} {w w' : World} {v : Value} (hv : v = .slice none 0 0) (hb : Below w.heap.size w w') : RetRow E s w 0 [] (.returned v) w' := ⟨none, 0, by rw [hv], World.ownsRow_nil _ _ _ _, hb⟩
theorem RetRow.of {E : TypeId} {s n c : Nat} {w w' : World} {v : Value} {A : Option Addr} {xs : List Value} (hv : v = .slice A n c) (h : w'.ownsRow w.heap.size E s (.slice A n c) n xs) (hb : Below w.heap.size w w') : RetRow E s w n xs (.returned v) w' := ⟨A, c, by rw [hv], h, hb⟩
theorem RetRow.lit {E : TypeId} {s n : Nat} {w w1 w' : World} {v : Value} {xs : List Value} {cs : Array Value} (hw : w' = w1.alloc (.cells cs E)) (hv : v = .slice (some ⟨w1.heap.size, 0, none⟩) n n) (hcs : cs.toList = xs) (hl : xs.length = n * s) (hn : n ≤ 1000) (hB : Below w.heap.size w w1) : RetRow E s w n xs (.returned v) w' := by
  subst hw
  exact RetRow.of hv (own_lit w1 E s n xs cs hcs hl hn hB.size) (bel_alloc hB _)
/-- what is lifted, as cells -/
def lfOne (v k a b n : Int) (s t : List UInt8) : Value := .iface 145 (.agg (OC v k a b n s t))
def lfTwo (v k a b n : Int) (s t : List UInt8) : Value := .iface 125 (.agg (OC v k a b n s t))
def lfThree (k a b n : Int) (s t u : List UInt8) : Value := .iface 129 (.agg (evV k a b n s t u))
theorem iLift : Info Tryz.prog 124 128 .nilIface 1 16 := Info.mk_ Tryz.underlying124 (by kernel_rfl) rfl (by omega)
abbrev RetL := RetRow 128 1

theorem made_any (v k a b n : Int) (s t : List UInt8) (w : World) : Calls Tryz.prog 179 #[.agg (OC v k a b n s t)] w (RetL w 1 [lfTwo 2 k a b n s t]) := by
  simp only [OC, lfTwo]
  go_enter Tryz.func179, Tryz.ntmps179
  go_wp2_with fail
  go_ret
  have hB := bel_alloc (Below.refl w.heap.size w) (.cells #[.int .i64 2, .int .i64 k, .int .i64 a, .int .i64 b, .int .i64 n, .string ⟨s.toArray⟩, .string ⟨t.toArray⟩] 90)
  exact RetRow.lit rfl (by first | rfl | simp) rfl rfl (by omega) hB
theorem threeNext_any (k a b n : Int) (s t u : List UInt8) (w : World) : Calls Tryz.prog 177 #[.agg (evV k a b n s t u)] w (RetL w 1 [lfThree k a b n s t u]) := by
  simp only [evV, lfThree]
  go_enter Tryz.func177, Tryz.ntmps177
  go_wp2_with fail
  go_ret
  have hB := bel_alloc (Below.refl w.heap.size w) (.cells #[.int .i64 k, .int .i64 a, .int .i64 b, .int .i64 n, .string ⟨s.toArray⟩, .string ⟨t.toArray⟩, .string ⟨u.toArray⟩] 129)
  exact RetRow.lit rfl (by first | rfl | simp) rfl rfl (by omega) hB
def twoL (k a b n : Int) (s t : List UInt8) : List Value := if evOK k a b n s t [] then [lfThree k a b n s t []] else []
theorem twoNext_any (v k a b n : Int) (s t : List UInt8) (w : World) (hs : s.length ≤ 20000) (ht : t.length ≤ 20000) : Calls Tryz.prog 91 #[.agg (OC v k a b n s t)] w (RetL w (twoL k a b n s t).length (twoL k a b n s t)) := by
  have HC := Lib.hid (fun W => check14_any k a b n s t [] W hs ht (by simp))
  have B0 := bel_alloc (bel_alloc (Below.refl w.heap.size w) (.cells (OC v k a b n s t) 125)) (.cells (evV k a b n s t []) 50)
  have he0 : Blk ((w.alloc (.cells (OC v k a b n s t) 125)).alloc (.cells (evV k a b n s t []) 50)) (w.heap.size + 1) 50 (evV k a b n s t []) := by
    have := Blk.new (w.alloc (.cells (OC v k a b n s t) 125)) 50 (evV k a b n s t [])
    simpa using this
  unfold twoL
  cases hok : evOK k a b n s t [] with
  | false =>
    rw [hok] at HC
    clear hok
    simp only [OC, evV] at *
    go_enter Tryz.func91, Tryz.ntmps91
    go_wp2_with fail
    (with_reducible refine (HC.out _).mono ?_)
    rintro e w1 ⟨rfl, hb1⟩
    go_wp2_with fail
    go_ret
    exact RetRow.nil rfl (bel_step B0 hb1)
  | true =>
    rw [hok] at HC
    clear hok
    simp only [OC, evV, lfThree] at *
    go_enter Tryz.func91, Tryz.ntmps91
    go_wp2_with fail
    (with_reducible refine (HC.out _).mono ?_)
    rintro e w1 ⟨rfl, hb1⟩
    have he1 := he0.below hb1 he0.lt
    have y0 := he1.cell 0
    have y1 := he1.cell 1
    have y2 := he1.cell 2
    have y3 := he1.cell 3
    have y4 := he1.cell 4
    have y5 := he1.cell 5
    have y6 := he1.cell 6
    try simp only [evV] at y0 y1 y2 y3 y4 y5 y6
    simp at y0 y1 y2 y3 y4 y5 y6
    have B1 := bel_step B0 hb1
    clear he0 hb1 B0
    go_wp2_with fail
    go_ret
    exact RetRow.lit rfl (by first | rfl | simp) rfl rfl (by omega) B1
/-- a text, clean, cut, clean -/
def shortT (l : List UInt8) (n : Int) : List UInt8 := cleanT (cutT (cleanT l) n)
theorem short16_any (l : List UInt8) (n : Int) (w : World) (hl : l.length ≤ 10000) (h0 : -9223372036854775808 ≤ n) (h1 : n ≤ 9223372036854775807) : Calls Tryz.prog 180 #[.string ⟨l.toArray⟩, .int .i64 n] w (RetS w (shortT l n)) := by
  have H1 := Lib.hid (fun W => clean_l l W (by omega))
  have hc1 := cleanT_len l
  have H2 := Lib.hid (fun W => cut_l (cleanT l) n W (by omega) h0 h1)
  have hc2 := cutT_len (cleanT l) n
  have H3 := Lib.hid (fun W => clean_l (cutT (cleanT l) n) W (by omega))
  unfold shortT
  generalize cleanT l = l1 at *
  generalize cutT l1 n = l2 at *
  generalize cleanT l2 = l3 at *
  go_enter Tryz.func180, Tryz.ntmps180
  go_wp2_with fail
  (with_reducible refine (H1.out _).mono ?_)
  rintro e w1 ⟨rfl, hb1⟩
  go_wp2_with fail
  (with_reducible refine (H2.out _).mono ?_)
  rintro e w2 ⟨rfl, hb2⟩
  go_wp2_with fail
  (with_reducible refine (H3.out _).mono ?_)
  rintro e w3 ⟨rfl, hb3⟩
  go_wp2_with fail
  go_ret
  exact ⟨rfl, bel_step (bel_step hb1 hb2) hb3⟩
end Go.Proofs.YtfepinnfhcjopaaGreatDoor
end
section
namespace Go.Proofs.YtfepinnfhcjopaaGreatDoor
open Go.RowKit Go.Nst
set_option maxRecDepth 100000
set_option linter.unusedVariables false
set_option linter.unusedSimpArgs false

def oneO (k a b n : Int) (s t : List UInt8) : List Ol :=
  if k = 1 then [⟨2, 3, a, 0, 0, shortT s 512, []⟩]
  else if k = 2 then [⟨2, 4, a, 0, 0, [], []⟩]
  else if k = 3 then [⟨2, 7, a, b, 0, shortT s 512, shortT t 256⟩]
  else if k = 4 then (if n < 0 ∨ 3 < n then [] else [⟨2, 8, a, 0, n % 2, [], []⟩, ⟨2, 9, a, 0, n / 2, [], []⟩])
  else match wordsL s with
    | [] => []
    | x :: _ => [⟨2, 10, a, 0, n, x, []⟩]
def lfO (o : Ol) : Value := lfTwo o.v o.k o.a o.b o.n o.s o.t
theorem lf_one (l : List Ol) : ∀ u ∈ l.map lfO, u.oneCell' = true := by
  intro u hu
  simp only [List.mem_map] at hu
  obtain ⟨x, _, rfl⟩ := hu
  rfl
set_option maxHeartbeats 4000000 in
theorem oneNext_1 (v a b n : Int) (s t : List UInt8) (w : World) (hs : s.length ≤ 10000) (ht : t.length ≤ 10000) : Calls Tryz.prog 178 #[.agg (OC v 1 a b n s t)] w (RetL w ([(⟨2, 3, a, 0, 0, shortT s 512, []⟩ : Ol)]).length (([(⟨2, 3, a, 0, 0, shortT s 512, []⟩ : Ol)]).map lfO)) := by
  have hv0 := Blk.new w 145 (OC v 1 a b n s t)
  have B0 := bel_alloc (Below.refl w.heap.size w) (.cells (OC v 1 a b n s t) 145)
  have HM := Lib.hid (fun W x1 x2 x3 x4 x5 x6 => made_any 0 x1 x2 x3 x4 x5 x6 W)
  simp only [OC] at *
  have HS := Lib.hid (fun W => short16_any s 512 W (by omega) (by omega) (by omega))
  generalize shortT s 512 = s1 at *
  go_enter Tryz.func178, Tryz.ntmps178
  go_wp2_with fail
  refine wp_region_seq (by kernel_rfl) [(0, true), (1, true), (2, true), (3, true), (4, false), (5, true), (6, false), (7, true)] (by kernel_rfl) rfl (by kernel_rfl) ?_
  intro w2 hb2
  have hv2 := hv0.below hb2 hv0.lt
  have B2 := bel_step B0 hb2
  have cv : ∀ W, Below w2.heap.size w2 W → Blk W w.heap.size 145 #[.int .i64 v, .int .i64 1, .int .i64 a, .int .i64 b, .int .i64 n, .string ⟨s.toArray⟩, .string ⟨t.toArray⟩] := fun W hW => hv2.below hW hv2.lt
  have c0 := fun W (hW : Below w2.heap.size w2 W) => (show W.cell? ⟨w.heap.size, 0, none⟩ = _ from ((cv W hW).cell 0).trans rfl)
  have c1 := fun W (hW : Below w2.heap.size w2 W) => (show W.cell? ⟨w.heap.size, 1, none⟩ = _ from ((cv W hW).cell 1).trans rfl)
  have c2 := fun W (hW : Below w2.heap.size w2 W) => (show W.cell? ⟨w.heap.size, 2, none⟩ = _ from ((cv W hW).cell 2).trans rfl)
  have c3 := fun W (hW : Below w2.heap.size w2 W) => (show W.cell? ⟨w.heap.size, 3, none⟩ = _ from ((cv W hW).cell 3).trans rfl)
  have c4 := fun W (hW : Below w2.heap.size w2 W) => (show W.cell? ⟨w.heap.size, 4, none⟩ = _ from ((cv W hW).cell 4).trans rfl)
  have c5 := fun W (hW : Below w2.heap.size w2 W) => (show W.cell? ⟨w.heap.size, 5, none⟩ = _ from ((cv W hW).cell 5).trans rfl)
  have c6 := fun W (hW : Below w2.heap.size w2 W) => (show W.cell? ⟨w.heap.size, 6, none⟩ = _ from ((cv W hW).cell 6).trans rfl)
  clear cv hv2 hb2 hv0 B0
  iterate 4 (refine wpSeq_take (o := ⟨_, _, _, _, _, _⟩) (v := ?_) rfl rfl ?_ ?_; rotate_left; (focus (intro W hW; go_simp; first | done | with_reducible rfl)); simp only [Act.put, List.setIfInBounds_toArray, List.set_cons_zero, List.set_cons_succ])
  refine wpSeq_exec (o := ⟨_, _, _, _, _, _⟩) rfl rfl (fun K hK => ?_)
  go_simp
  (with_reducible refine (HS.out w2).mono ?_)
  rintro e w3 ⟨rfl, hb3⟩
  go_wp2_with fail
  refine hK _ _ hb3 ?_
  clear hK K
  have B3 := bel_step B2 hb3
  iterate 1 (refine wpSeq_take (o := ⟨_, _, _, _, _, _⟩) (v := ?_) rfl rfl ?_ ?_; rotate_left; (focus (intro W hW; go_simp; first | done | with_reducible rfl)); simp only [Act.put, List.setIfInBounds_toArray, List.set_cons_zero, List.set_cons_succ])
  refine wpSeq_exec (o := ⟨_, _, _, _, _, _⟩) rfl rfl (fun K hK => ?_)
  go_simp
  (with_reducible refine (HM.out w3 _ _ _ _ _ _).mono ?_)
  rintro e w4 ⟨A4, c4_, rfl, ho4, hb4⟩
  go_wp2_with fail
  refine hK _ _ hb4 ?_
  clear hK K
  have B4 := bel_step B3 hb4
  iterate 1 (refine wpSeq_take (o := ⟨_, _, _, _, _, _⟩) (v := ?_) rfl rfl ?_ ?_; rotate_left; (focus (intro W hW; go_simp; first | done | with_reducible rfl)); simp only [Act.put, List.setIfInBounds_toArray, List.set_cons_zero, List.set_cons_succ])
  refine wpSeq_nil ?_
  go_wp2_with fail
  go_ret
  exact RetRow.of rfl (own_mono ho4 B3.size) B4
set_option maxHeartbeats 4000000 in
theorem oneNext_2 (v a b n : Int) (s t : List UInt8) (w : World) (hs : s.length ≤ 10000) (ht : t.length ≤ 10000) : Calls Tryz.prog 178 #[.agg (OC v 2 a b n s t)] w (RetL w ([(⟨2, 4, a, 0, 0, [], []⟩ : Ol)]).length (([(⟨2, 4, a, 0, 0, [], []⟩ : Ol)]).map lfO)) := by
  have hv0 := Blk.new w 145 (OC v 2 a b n s t)
  have B0 := bel_alloc (Below.refl w.heap.size w) (.cells (OC v 2 a b n s t) 145)
  have HM := Lib.hid (fun W x1 x2 x3 x4 x5 x6 => made_any 0 x1 x2 x3 x4 x5 x6 W)
  simp only [OC] at *
  go_enter Tryz.func178, Tryz.ntmps178
  go_wp2_with fail
  (with_reducible refine (HM.out _ _ _ _ _ _ _).mono ?_)
  rintro e w1 ⟨A1, c1, rfl, ho1, hb1⟩
  go_wp2_with fail
  go_ret
  exact RetRow.of rfl (own_mono ho1 (by simp)) (bel_step B0 hb1)
set_option maxHeartbeats 4000000 in
theorem oneNext_3 (v a b n : Int) (s t : List UInt8) (w : World) (hs : s.length ≤ 10000) (ht : t.length ≤ 10000) : Calls Tryz.prog 178 #[.agg (OC v 3 a b n s t)] w (RetL w ([(⟨2, 7, a, b, 0, shortT s 512, shortT t 256⟩ : Ol)]).length (([(⟨2, 7, a, b, 0, shortT s 512, shortT t 256⟩ : Ol)]).map lfO)) := by
  have hv0 := Blk.new w 145 (OC v 3 a b n s t)
  have B0 := bel_alloc (Below.refl w.heap.size w) (.cells (OC v 3 a b n s t) 145)
  have HM := Lib.hid (fun W x1 x2 x3 x4 x5 x6 => made_any 0 x1 x2 x3 x4 x5 x6 W)
  simp only [OC] at *
  have HS := Lib.hid (fun W => short16_any s 512 W (by omega) (by omega) (by omega))
  have HT := Lib.hid (fun W => short16_any t 256 W (by omega) (by omega) (by omega))
  generalize shortT s 512 = s1 at *
  generalize shortT t 256 = t1 at *
  go_enter Tryz.func178, Tryz.ntmps178
  go_wp2_with fail
  refine wp_region_seq (by kernel_rfl) [(0, true), (1, true), (2, true), (3, true), (4, true), (5, true), (7, true), (8, true), (6, false), (9, false), (10, true), (11, false), (12, true)] (by kernel_rfl) rfl (by kernel_rfl) ?_
  intro w2 hb2
  have hv2 := hv0.below hb2 hv0.lt
  have B2 := bel_step B0 hb2
  have cv : ∀ W, Below w2.heap.size w2 W → Blk W w.heap.size 145 #[.int .i64 v, .int .i64 3, .int .i64 a, .int .i64 b, .int .i64 n, .string ⟨s.toArray⟩, .string ⟨t.toArray⟩] := fun W hW => hv2.below hW hv2.lt
  have c0 := fun W (hW : Below w2.heap.size w2 W) => (show W.cell? ⟨w.heap.size, 0, none⟩ = _ from ((cv W hW).cell 0).trans rfl)
  have c1 := fun W (hW : Below w2.heap.size w2 W) => (show W.cell? ⟨w.heap.size, 1, none⟩ = _ from ((cv W hW).cell 1).trans rfl)
  have c2 := fun W (hW : Below w2.heap.size w2 W) => (show W.cell? ⟨w.heap.size, 2, none⟩ = _ from ((cv W hW).cell 2).trans rfl)
  have c3 := fun W (hW : Below w2.heap.size w2 W) => (show W.cell? ⟨w.heap.size, 3, none⟩ = _ from ((cv W hW).cell 3).trans rfl)
  have c4 := fun W (hW : Below w2.heap.size w2 W) => (show W.cell? ⟨w.heap.size, 4, none⟩ = _ from ((cv W hW).cell 4).trans rfl)
  have c5 := fun W (hW : Below w2.heap.size w2 W) => (show W.cell? ⟨w.heap.size, 5, none⟩ = _ from ((cv W hW).cell 5).trans rfl)
  have c6 := fun W (hW : Below w2.heap.size w2 W) => (show W.cell? ⟨w.heap.size, 6, none⟩ = _ from ((cv W hW).cell 6).trans rfl)
  clear cv hv2 hb2 hv0 B0
  iterate 8 (refine wpSeq_take (o := ⟨_, _, _, _, _, _⟩) (v := ?_) rfl rfl ?_ ?_; rotate_left; (focus (intro W hW; go_simp; first | done | with_reducible rfl)); simp only [Act.put, List.setIfInBounds_toArray, List.set_cons_zero, List.set_cons_succ])
  refine wpSeq_exec (o := ⟨_, _, _, _, _, _⟩) rfl rfl (fun K hK => ?_)
  go_simp
  (with_reducible refine (HS.out w2).mono ?_)
  rintro e w3 ⟨rfl, hb3⟩
  go_wp2_with fail
  refine hK _ _ hb3 ?_
  clear hK K
  have B3 := bel_step B2 hb3
  refine wpSeq_exec (o := ⟨_, _, _, _, _, _⟩) rfl rfl (fun K hK => ?_)
  go_simp
  (with_reducible refine (HT.out w3).mono ?_)
  rintro e w4 ⟨rfl, hb4⟩
  go_wp2_with fail
  refine hK _ _ hb4 ?_
  clear hK K
  have B4 := bel_step B3 hb4
  iterate 1 (refine wpSeq_take (o := ⟨_, _, _, _, _, _⟩) (v := ?_) rfl rfl ?_ ?_; rotate_left; (focus (intro W hW; go_simp; first | done | with_reducible rfl)); simp only [Act.put, List.setIfInBounds_toArray, List.set_cons_zero, List.set_cons_succ])
  refine wpSeq_exec (o := ⟨_, _, _, _, _, _⟩) rfl rfl (fun K hK => ?_)
  go_simp
  (with_reducible refine (HM.out w4 _ _ _ _ _ _).mono ?_)
  rintro e w5 ⟨A5, c5_, rfl, ho5, hb5⟩
  go_wp2_with fail
  refine hK _ _ hb5 ?_
  clear hK K
  have B5 := bel_step B4 hb5
  iterate 1 (refine wpSeq_take (o := ⟨_, _, _, _, _, _⟩) (v := ?_) rfl rfl ?_ ?_; rotate_left; (focus (intro W hW; go_simp; first | done | with_reducible rfl)); simp only [Act.put, List.setIfInBounds_toArray, List.set_cons_zero, List.set_cons_succ])
  refine wpSeq_nil ?_
  go_wp2_with fail
  go_ret
  exact RetRow.of rfl (own_mono ho5 B4.size) B5
set_option maxHeartbeats 4000000 in
theorem oneNext_4_no (v a b n : Int) (s t : List UInt8) (w : World) (hs : s.length ≤ 10000) (ht : t.length ≤ 10000) (hn : n < 0 ∨ 3 < n) : Calls Tryz.prog 178 #[.agg (OC v 4 a b n s t)] w (RetL w (([] : List Ol)).length ((([] : List Ol)).map lfO)) := by
  have hv0 := Blk.new w 145 (OC v 4 a b n s t)
  have B0 := bel_alloc (Below.refl w.heap.size w) (.cells (OC v 4 a b n s t) 145)
  have HM := Lib.hid (fun W x1 x2 x3 x4 x5 x6 => made_any 0 x1 x2 x3 x4 x5 x6 W)
  simp only [OC] at *
  by_cases h0 : n < 0
  · have d1 : decide (n < 0) = true := by simpa using h0
    clear h0 hn
    go_enter Tryz.func178, Tryz.ntmps178
    go_wp2_with fail
    go_ret
    exact RetRow.nil rfl B0
  · have d1 : decide (n < 0) = false := by simpa using h0
    have d2 : decide (3 < n) = true := by simp; omega
    clear h0 hn
    go_enter Tryz.func178, Tryz.ntmps178
    go_wp2_with fail
    go_ret
    exact RetRow.nil rfl B0
set_option maxHeartbeats 4000000 in
theorem oneNext_4_0 (v a b n : Int) (s t : List UInt8) (w : World) (hs : s.length ≤ 10000) (ht : t.length ≤ 10000) : Calls Tryz.prog 178 #[.agg (OC v 4 a b 0 s t)] w (RetL w ([(⟨2, 8, a, 0, 0, [], []⟩ : Ol), ⟨2, 9, a, 0, 0, [], []⟩]).length (([(⟨2, 8, a, 0, 0, [], []⟩ : Ol), ⟨2, 9, a, 0, 0, [], []⟩]).map lfO)) := by
  have hv0 := Blk.new w 145 (OC v 4 a b 0 s t)
  have B0 := bel_alloc (Below.refl w.heap.size w) (.cells (OC v 4 a b 0 s t) 145)
  have HM := Lib.hid (fun W x1 x2 x3 x4 x5 x6 => made_any 0 x1 x2 x3 x4 x5 x6 W)
  simp only [OC] at *
  go_enter Tryz.func178, Tryz.ntmps178
  go_wp2_with fail
  refine wp_region_seqR (fun x y => Below (w.heap.size + 1) x y) (fun _ => Below.refl _ _) (fun _ _ _ h k => h.trans k) (by kernel_rfl) [(0, true), (1, true), (2, true), (3, true), (4, true), (5, true), (7, true), (8, true), (9, true), (10, true), (11, true), (12, true), (6, false), (13, false), (14, false), (15, true)] (by kernel_rfl) rfl (by kernel_rfl) (Below.refl _ _).drew ?_
  intro w2 hb2
  have hz2 : w.heap.size + 1 ≤ w2.heap.size := by have := hb2.size; simp at this; omega
  have hv2 := hv0.below hb2 (by simp)
  have B2 : Below w.heap.size w w2 := B0.trans (hb2.mono (by omega))
  have cv : ∀ W, Below (w.heap.size + 1) w2 W → Blk W w.heap.size 145 #[.int .i64 v, .int .i64 4, .int .i64 a, .int .i64 b, .int .i64 0, .string ⟨s.toArray⟩, .string ⟨t.toArray⟩] := fun W hW => hv2.below hW (by omega)
  have c0 := fun W (hW : Below (w.heap.size + 1) w2 W) => (show W.cell? ⟨w.heap.size, 0, none⟩ = _ from ((cv W hW).cell 0).trans rfl)
  have c1 := fun W (hW : Below (w.heap.size + 1) w2 W) => (show W.cell? ⟨w.heap.size, 1, none⟩ = _ from ((cv W hW).cell 1).trans rfl)
  have c2 := fun W (hW : Below (w.heap.size + 1) w2 W) => (show W.cell? ⟨w.heap.size, 2, none⟩ = _ from ((cv W hW).cell 2).trans rfl)
  have c3 := fun W (hW : Below (w.heap.size + 1) w2 W) => (show W.cell? ⟨w.heap.size, 3, none⟩ = _ from ((cv W hW).cell 3).trans rfl)
  have c4 := fun W (hW : Below (w.heap.size + 1) w2 W) => (show W.cell? ⟨w.heap.size, 4, none⟩ = _ from ((cv W hW).cell 4).trans rfl)
  have c5 := fun W (hW : Below (w.heap.size + 1) w2 W) => (show W.cell? ⟨w.heap.size, 5, none⟩ = _ from ((cv W hW).cell 5).trans rfl)
  have c6 := fun W (hW : Below (w.heap.size + 1) w2 W) => (show W.cell? ⟨w.heap.size, 6, none⟩ = _ from ((cv W hW).cell 6).trans rfl)
  clear cv hv2 hb2 hv0 B0
  iterate 12 (refine wpSeqR_take (o := ⟨_, _, _, _, _, _⟩) (v := ?_) rfl rfl ?_ ?_; rotate_left; (focus (intro W hW; go_simp; first | done | with_reducible rfl)); simp only [Act.put, List.setIfInBounds_toArray, List.set_cons_zero, List.set_cons_succ])
  refine wpSeqR_exec (o := ⟨_, _, _, _, _, _⟩) rfl rfl (fun K hK => ?_)
  go_simp
  (with_reducible refine (HM.out w2 _ _ _ _ _ _).mono ?_)
  rintro e w3 ⟨A3, c3, rfl, ho3, hb3⟩
  go_wp2_with fail
  refine hK _ _ (hb3.mono hz2) ?_
  clear hK K
  have B3 := bel_step B2 hb3
  have hz3 : w.heap.size + 1 ≤ w3.heap.size := Nat.le_trans hz2 hb3.size
  refine wpSeqR_exec (o := ⟨_, _, _, _, _, _⟩) rfl rfl (fun K hK => ?_)
  go_simp
  (with_reducible refine (HM.out w3 _ _ _ _ _ _).mono ?_)
  rintro e w4 ⟨A4, c4, rfl, ho4, hb4⟩
  go_wp2_with fail
  refine hK _ _ (hb4.mono hz3) ?_
  clear hK K
  have B4 := bel_step B3 hb4
  have ho3' := own_below ho3 hb4
  refine wpSeqR_exec (o := ⟨_, _, _, _, _, _⟩) rfl rfl (fun K hK => ?_)
  refine wp_app _ iLift rfl rfl ho3' rfl (Reads.of_own ho4) (fun u hu => by rw [List.mem_singleton.1 hu]; rfl) (by unfold maxLen; omega) (by omega) (Nat.le_trans hb3.size hb4.size) ?_
  intro A5 c5 w5 ho5 hg5 _
  have hb5 : Below w2.heap.size w4 w5 := (Below.refl _ _).grown hg5 (by have := hb3.size; have := hb4.size; omega) (fun k hk => (World.ownsRow.lt ho3' k hk).1)
  refine hK _ _ (hb5.mono hz2) ?_
  clear hK K
  iterate 1 (refine wpSeqR_take (o := ⟨_, _, _, _, _, _⟩) (v := ?_) rfl rfl ?_ ?_; rotate_left; (focus (intro W hW; go_simp; first | done | with_reducible rfl)); simp only [Act.put, List.setIfInBounds_toArray, List.set_cons_zero, List.set_cons_succ])
  refine wpSeqR_nil ?_
  go_wp2_with fail
  go_ret
  exact RetRow.of rfl (own_mono ho5 B2.size) (B4.trans (hb5.mono B2.size))
set_option maxHeartbeats 4000000 in
theorem oneNext_4_1 (v a b n : Int) (s t : List UInt8) (w : World) (hs : s.length ≤ 10000) (ht : t.length ≤ 10000) : Calls Tryz.prog 178 #[.agg (OC v 4 a b 1 s t)] w (RetL w ([(⟨2, 8, a, 0, 1, [], []⟩ : Ol), ⟨2, 9, a, 0, 0, [], []⟩]).length (([(⟨2, 8, a, 0, 1, [], []⟩ : Ol), ⟨2, 9, a, 0, 0, [], []⟩]).map lfO)) := by
  have hv0 := Blk.new w 145 (OC v 4 a b 1 s t)
  have B0 := bel_alloc (Below.refl w.heap.size w) (.cells (OC v 4 a b 1 s t) 145)
  have HM := Lib.hid (fun W x1 x2 x3 x4 x5 x6 => made_any 0 x1 x2 x3 x4 x5 x6 W)
  simp only [OC] at *
  go_enter Tryz.func178, Tryz.ntmps178
  go_wp2_with fail
  refine wp_region_seqR (fun x y => Below (w.heap.size + 1) x y) (fun _ => Below.refl _ _) (fun _ _ _ h k => h.trans k) (by kernel_rfl) [(0, true), (1, true), (2, true), (3, true), (4, true), (5, true), (7, true), (8, true), (9, true), (10, true), (11, true), (12, true), (6, false), (13, false), (14, false), (15, true)] (by kernel_rfl) rfl (by kernel_rfl) (Below.refl _ _).drew ?_
  intro w2 hb2
  have hz2 : w.heap.size + 1 ≤ w2.heap.size := by have := hb2.size; simp at this; omega
  have hv2 := hv0.below hb2 (by simp)
  have B2 : Below w.heap.size w w2 := B0.trans (hb2.mono (by omega))
  have cv : ∀ W, Below (w.heap.size + 1) w2 W → Blk W w.heap.size 145 #[.int .i64 v, .int .i64 4, .int .i64 a, .int .i64 b, .int .i64 1, .string ⟨s.toArray⟩, .string ⟨t.toArray⟩] := fun W hW => hv2.below hW (by omega)
  have c0 := fun W (hW : Below (w.heap.size + 1) w2 W) => (show W.cell? ⟨w.heap.size, 0, none⟩ = _ from ((cv W hW).cell 0).trans rfl)
  have c1 := fun W (hW : Below (w.heap.size + 1) w2 W) => (show W.cell? ⟨w.heap.size, 1, none⟩ = _ from ((cv W hW).cell 1).trans rfl)
  have c2 := fun W (hW : Below (w.heap.size + 1) w2 W) => (show W.cell? ⟨w.heap.size, 2, none⟩ = _ from ((cv W hW).cell 2).trans rfl)
  have c3 := fun W (hW : Below (w.heap.size + 1) w2 W) => (show W.cell? ⟨w.heap.size, 3, none⟩ = _ from ((cv W hW).cell 3).trans rfl)
  have c4 := fun W (hW : Below (w.heap.size + 1) w2 W) => (show W.cell? ⟨w.heap.size, 4, none⟩ = _ from ((cv W hW).cell 4).trans rfl)
  have c5 := fun W (hW : Below (w.heap.size + 1) w2 W) => (show W.cell? ⟨w.heap.size, 5, none⟩ = _ from ((cv W hW).cell 5).trans rfl)
  have c6 := fun W (hW : Below (w.heap.size + 1) w2 W) => (show W.cell? ⟨w.heap.size, 6, none⟩ = _ from ((cv W hW).cell 6).trans rfl)
  clear cv hv2 hb2 hv0 B0
  iterate 12 (refine wpSeqR_take (o := ⟨_, _, _, _, _, _⟩) (v := ?_) rfl rfl ?_ ?_; rotate_left; (focus (intro W hW; go_simp; first | done | with_reducible rfl)); simp only [Act.put, List.setIfInBounds_toArray, List.set_cons_zero, List.set_cons_succ])
  refine wpSeqR_exec (o := ⟨_, _, _, _, _, _⟩) rfl rfl (fun K hK => ?_)
  go_simp
  (with_reducible refine (HM.out w2 _ _ _ _ _ _).mono ?_)
  rintro e w3 ⟨A3, c3, rfl, ho3, hb3⟩
  go_wp2_with fail
  refine hK _ _ (hb3.mono hz2) ?_
  clear hK K
  have B3 := bel_step B2 hb3
  have hz3 : w.heap.size + 1 ≤ w3.heap.size := Nat.le_trans hz2 hb3.size
  refine wpSeqR_exec (o := ⟨_, _, _, _, _, _⟩) rfl rfl (fun K hK => ?_)
  go_simp
  (with_reducible refine (HM.out w3 _ _ _ _ _ _).mono ?_)
  rintro e w4 ⟨A4, c4, rfl, ho4, hb4⟩
  go_wp2_with fail
  refine hK _ _ (hb4.mono hz3) ?_
  clear hK K
  have B4 := bel_step B3 hb4
  have ho3' := own_below ho3 hb4
  refine wpSeqR_exec (o := ⟨_, _, _, _, _, _⟩) rfl rfl (fun K hK => ?_)
  refine wp_app _ iLift rfl rfl ho3' rfl (Reads.of_own ho4) (fun u hu => by rw [List.mem_singleton.1 hu]; rfl) (by unfold maxLen; omega) (by omega) (Nat.le_trans hb3.size hb4.size) ?_
  intro A5 c5 w5 ho5 hg5 _
  have hb5 : Below w2.heap.size w4 w5 := (Below.refl _ _).grown hg5 (by have := hb3.size; have := hb4.size; omega) (fun k hk => (World.ownsRow.lt ho3' k hk).1)
  refine hK _ _ (hb5.mono hz2) ?_
  clear hK K
  iterate 1 (refine wpSeqR_take (o := ⟨_, _, _, _, _, _⟩) (v := ?_) rfl rfl ?_ ?_; rotate_left; (focus (intro W hW; go_simp; first | done | with_reducible rfl)); simp only [Act.put, List.setIfInBounds_toArray, List.set_cons_zero, List.set_cons_succ])
  refine wpSeqR_nil ?_
  go_wp2_with fail
  go_ret
  exact RetRow.of rfl (own_mono ho5 B2.size) (B4.trans (hb5.mono B2.size))
set_option maxHeartbeats 4000000 in
theorem oneNext_4_2 (v a b n : Int) (s t : List UInt8) (w : World) (hs : s.length ≤ 10000) (ht : t.length ≤ 10000) : Calls Tryz.prog 178 #[.agg (OC v 4 a b 2 s t)] w (RetL w ([(⟨2, 8, a, 0, 0, [], []⟩ : Ol), ⟨2, 9, a, 0, 1, [], []⟩]).length (([(⟨2, 8, a, 0, 0, [], []⟩ : Ol), ⟨2, 9, a, 0, 1, [], []⟩]).map lfO)) := by
  have hv0 := Blk.new w 145 (OC v 4 a b 2 s t)
  have B0 := bel_alloc (Below.refl w.heap.size w) (.cells (OC v 4 a b 2 s t) 145)
  have HM := Lib.hid (fun W x1 x2 x3 x4 x5 x6 => made_any 0 x1 x2 x3 x4 x5 x6 W)
  simp only [OC] at *
  go_enter Tryz.func178, Tryz.ntmps178
  go_wp2_with fail
  refine wp_region_seqR (fun x y => Below (w.heap.size + 1) x y) (fun _ => Below.refl _ _) (fun _ _ _ h k => h.trans k) (by kernel_rfl) [(0, true), (1, true), (2, true), (3, true), (4, true), (5, true), (7, true), (8, true), (9, true), (10, true), (11, true), (12, true), (6, false), (13, false), (14, false), (15, true)] (by kernel_rfl) rfl (by kernel_rfl) (Below.refl _ _).drew ?_
  intro w2 hb2
  have hz2 : w.heap.size + 1 ≤ w2.heap.size := by have := hb2.size; simp at this; omega
  have hv2 := hv0.below hb2 (by simp)
  have B2 : Below w.heap.size w w2 := B0.trans (hb2.mono (by omega))
  have cv : ∀ W, Below (w.heap.size + 1) w2 W → Blk W w.heap.size 145 #[.int .i64 v, .int .i64 4, .int .i64 a, .int .i64 b, .int .i64 2, .string ⟨s.toArray⟩, .string ⟨t.toArray⟩] := fun W hW => hv2.below hW (by omega)
  have c0 := fun W (hW : Below (w.heap.size + 1) w2 W) => (show W.cell? ⟨w.heap.size, 0, none⟩ = _ from ((cv W hW).cell 0).trans rfl)
  have c1 := fun W (hW : Below (w.heap.size + 1) w2 W) => (show W.cell? ⟨w.heap.size, 1, none⟩ = _ from ((cv W hW).cell 1).trans rfl)
  have c2 := fun W (hW : Below (w.heap.size + 1) w2 W) => (show W.cell? ⟨w.heap.size, 2, none⟩ = _ from ((cv W hW).cell 2).trans rfl)
  have c3 := fun W (hW : Below (w.heap.size + 1) w2 W) => (show W.cell? ⟨w.heap.size, 3, none⟩ = _ from ((cv W hW).cell 3).trans rfl)
  have c4 := fun W (hW : Below (w.heap.size + 1) w2 W) => (show W.cell? ⟨w.heap.size, 4, none⟩ = _ from ((cv W hW).cell 4).trans rfl)
  have c5 := fun W (hW : Below (w.heap.size + 1) w2 W) => (show W.cell? ⟨w.heap.size, 5, none⟩ = _ from ((cv W hW).cell 5).trans rfl)
  have c6 := fun W (hW : Below (w.heap.size + 1) w2 W) => (show W.cell? ⟨w.heap.size, 6, none⟩ = _ from ((cv W hW).cell 6).trans rfl)
  clear cv hv2 hb2 hv0 B0
  iterate 12 (refine wpSeqR_take (o := ⟨_, _, _, _, _, _⟩) (v := ?_) rfl rfl ?_ ?_; rotate_left; (focus (intro W hW; go_simp; first | done | with_reducible rfl)); simp only [Act.put, List.setIfInBounds_toArray, List.set_cons_zero, List.set_cons_succ])
  refine wpSeqR_exec (o := ⟨_, _, _, _, _, _⟩) rfl rfl (fun K hK => ?_)
  go_simp
  (with_reducible refine (HM.out w2 _ _ _ _ _ _).mono ?_)
  rintro e w3 ⟨A3, c3, rfl, ho3, hb3⟩
  go_wp2_with fail
  refine hK _ _ (hb3.mono hz2) ?_
  clear hK K
  have B3 := bel_step B2 hb3
  have hz3 : w.heap.size + 1 ≤ w3.heap.size := Nat.le_trans hz2 hb3.size
  refine wpSeqR_exec (o := ⟨_, _, _, _, _, _⟩) rfl rfl (fun K hK => ?_)
  go_simp
  (with_reducible refine (HM.out w3 _ _ _ _ _ _).mono ?_)
  rintro e w4 ⟨A4, c4, rfl, ho4, hb4⟩
  go_wp2_with fail
  refine hK _ _ (hb4.mono hz3) ?_
  clear hK K
  have B4 := bel_step B3 hb4
  have ho3' := own_below ho3 hb4
  refine wpSeqR_exec (o := ⟨_, _, _, _, _, _⟩) rfl rfl (fun K hK => ?_)
  refine wp_app _ iLift rfl rfl ho3' rfl (Reads.of_own ho4) (fun u hu => by rw [List.mem_singleton.1 hu]; rfl) (by unfold maxLen; omega) (by omega) (Nat.le_trans hb3.size hb4.size) ?_
  intro A5 c5 w5 ho5 hg5 _
  have hb5 : Below w2.heap.size w4 w5 := (Below.refl _ _).grown hg5 (by have := hb3.size; have := hb4.size; omega) (fun k hk => (World.ownsRow.lt ho3' k hk).1)
  refine hK _ _ (hb5.mono hz2) ?_
  clear hK K
  iterate 1 (refine wpSeqR_take (o := ⟨_, _, _, _, _, _⟩) (v := ?_) rfl rfl ?_ ?_; rotate_left; (focus (intro W hW; go_simp; first | done | with_reducible rfl)); simp only [Act.put, List.setIfInBounds_toArray, List.set_cons_zero, List.set_cons_succ])
  refine wpSeqR_nil ?_
  go_wp2_with fail
  go_ret
  exact RetRow.of rfl (own_mono ho5 B2.size) (B4.trans (hb5.mono B2.size))
set_option maxHeartbeats 4000000 in
theorem oneNext_4_3 (v a b n : Int) (s t : List UInt8) (w : World) (hs : s.length ≤ 10000) (ht : t.length ≤ 10000) : Calls Tryz.prog 178 #[.agg (OC v 4 a b 3 s t)] w (RetL w ([(⟨2, 8, a, 0, 1, [], []⟩ : Ol), ⟨2, 9, a, 0, 1, [], []⟩]).length (([(⟨2, 8, a, 0, 1, [], []⟩ : Ol), ⟨2, 9, a, 0, 1, [], []⟩]).map lfO)) := by
  have hv0 := Blk.new w 145 (OC v 4 a b 3 s t)
  have B0 := bel_alloc (Below.refl w.heap.size w) (.cells (OC v 4 a b 3 s t) 145)
  have HM := Lib.hid (fun W x1 x2 x3 x4 x5 x6 => made_any 0 x1 x2 x3 x4 x5 x6 W)
  simp only [OC] at *
  go_enter Tryz.func178, Tryz.ntmps178
  go_wp2_with fail
  refine wp_region_seqR (fun x y => Below (w.heap.size + 1) x y) (fun _ => Below.refl _ _) (fun _ _ _ h k => h.trans k) (by kernel_rfl) [(0, true), (1, true), (2, true), (3, true), (4, true), (5, true), (7, true), (8, true), (9, true), (10, true), (11, true), (12, true), (6, false), (13, false), (14, false), (15, true)] (by kernel_rfl) rfl (by kernel_rfl) (Below.refl _ _).drew ?_
  intro w2 hb2
  have hz2 : w.heap.size + 1 ≤ w2.heap.size := by have := hb2.size; simp at this; omega
  have hv2 := hv0.below hb2 (by simp)
  have B2 : Below w.heap.size w w2 := B0.trans (hb2.mono (by omega))
  have cv : ∀ W, Below (w.heap.size + 1) w2 W → Blk W w.heap.size 145 #[.int .i64 v, .int .i64 4, .int .i64 a, .int .i64 b, .int .i64 3, .string ⟨s.toArray⟩, .string ⟨t.toArray⟩] := fun W hW => hv2.below hW (by omega)
  have c0 := fun W (hW : Below (w.heap.size + 1) w2 W) => (show W.cell? ⟨w.heap.size, 0, none⟩ = _ from ((cv W hW).cell 0).trans rfl)
  have c1 := fun W (hW : Below (w.heap.size + 1) w2 W) => (show W.cell? ⟨w.heap.size, 1, none⟩ = _ from ((cv W hW).cell 1).trans rfl)
  have c2 := fun W (hW : Below (w.heap.size + 1) w2 W) => (show W.cell? ⟨w.heap.size, 2, none⟩ = _ from ((cv W hW).cell 2).trans rfl)
  have c3 := fun W (hW : Below (w.heap.size + 1) w2 W) => (show W.cell? ⟨w.heap.size, 3, none⟩ = _ from ((cv W hW).cell 3).trans rfl)
  have c4 := fun W (hW : Below (w.heap.size + 1) w2 W) => (show W.cell? ⟨w.heap.size, 4, none⟩ = _ from ((cv W hW).cell 4).trans rfl)
  have c5 := fun W (hW : Below (w.heap.size + 1) w2 W) => (show W.cell? ⟨w.heap.size, 5, none⟩ = _ from ((cv W hW).cell 5).trans rfl)
  have c6 := fun W (hW : Below (w.heap.size + 1) w2 W) => (show W.cell? ⟨w.heap.size, 6, none⟩ = _ from ((cv W hW).cell 6).trans rfl)
  clear cv hv2 hb2 hv0 B0
  iterate 12 (refine wpSeqR_take (o := ⟨_, _, _, _, _, _⟩) (v := ?_) rfl rfl ?_ ?_; rotate_left; (focus (intro W hW; go_simp; first | done | with_reducible rfl)); simp only [Act.put, List.setIfInBounds_toArray, List.set_cons_zero, List.set_cons_succ])
  refine wpSeqR_exec (o := ⟨_, _, _, _, _, _⟩) rfl rfl (fun K hK => ?_)
  go_simp
  (with_reducible refine (HM.out w2 _ _ _ _ _ _).mono ?_)
  rintro e w3 ⟨A3, c3, rfl, ho3, hb3⟩
  go_wp2_with fail
  refine hK _ _ (hb3.mono hz2) ?_
  clear hK K
  have B3 := bel_step B2 hb3
  have hz3 : w.heap.size + 1 ≤ w3.heap.size := Nat.le_trans hz2 hb3.size
  refine wpSeqR_exec (o := ⟨_, _, _, _, _, _⟩) rfl rfl (fun K hK => ?_)
  go_simp
  (with_reducible refine (HM.out w3 _ _ _ _ _ _).mono ?_)
  rintro e w4 ⟨A4, c4, rfl, ho4, hb4⟩
  go_wp2_with fail
  refine hK _ _ (hb4.mono hz3) ?_
  clear hK K
  have B4 := bel_step B3 hb4
  have ho3' := own_below ho3 hb4
  refine wpSeqR_exec (o := ⟨_, _, _, _, _, _⟩) rfl rfl (fun K hK => ?_)
  refine wp_app _ iLift rfl rfl ho3' rfl (Reads.of_own ho4) (fun u hu => by rw [List.mem_singleton.1 hu]; rfl) (by unfold maxLen; omega) (by omega) (Nat.le_trans hb3.size hb4.size) ?_
  intro A5 c5 w5 ho5 hg5 _
  have hb5 : Below w2.heap.size w4 w5 := (Below.refl _ _).grown hg5 (by have := hb3.size; have := hb4.size; omega) (fun k hk => (World.ownsRow.lt ho3' k hk).1)
  refine hK _ _ (hb5.mono hz2) ?_
  clear hK K
  iterate 1 (refine wpSeqR_take (o := ⟨_, _, _, _, _, _⟩) (v := ?_) rfl rfl ?_ ?_; rotate_left; (focus (intro W hW; go_simp; first | done | with_reducible rfl)); simp only [Act.put, List.setIfInBounds_toArray, List.set_cons_zero, List.set_cons_succ])
  refine wpSeqR_nil ?_
  go_wp2_with fail
  go_ret
  exact RetRow.of rfl (own_mono ho5 B2.size) (B4.trans (hb5.mono B2.size))
set_option maxHeartbeats 4000000 in
theorem oneNext_w_no (v a b n : Int) (s t : List UInt8) (w : World) (hs : s.length ≤ 10000) (ht : t.length ≤ 10000) (k : Int) (h1 : k ≠ 1) (h2 : k ≠ 2) (h3 : k ≠ 3) (h4 : k ≠ 4) (hw : wordsL s = []) : Calls Tryz.prog 178 #[.agg (OC v k a b n s t)] w (RetL w (([] : List Ol)).length ((([] : List Ol)).map lfO)) := by
  have hv0 := Blk.new w 145 (OC v k a b n s t)
  have B0 := bel_alloc (Below.refl w.heap.size w) (.cells (OC v k a b n s t) 145)
  have HM := Lib.hid (fun W x1 x2 x3 x4 x5 x6 => made_any 0 x1 x2 x3 x4 x5 x6 W)
  simp only [OC] at *
  have e1 : (k == 1) = false := by simpa using h1
  have e2 : (k == 2) = false := by simpa using h2
  have e3 : (k == 3) = false := by simpa using h3
  have e4 : (k == 4) = false := by simpa using h4
  have HW := Lib.hid (fun W => words_any s W (by omega))
  rw [hw] at HW
  clear h1 h2 h3 h4 hw
  go_enter Tryz.func178, Tryz.ntmps178
  go_wp2_with fail
  (with_reducible refine (HW.out _).mono ?_)
  rintro e w1 ⟨A1, n1, c1, rfl, ho1, hb1⟩
  have hn1 : n1 = 0 := by have := ho1.ss.len; simpa using this.symm
  subst hn1
  go_wp2_with fail
  go_ret
  exact RetRow.nil rfl (bel_step B0 hb1)
set_option maxHeartbeats 4000000 in
theorem oneNext_w_yes (v a b n : Int) (s t : List UInt8) (w : World) (hs : s.length ≤ 10000) (ht : t.length ≤ 10000) (k : Int) (h1 : k ≠ 1) (h2 : k ≠ 2) (h3 : k ≠ 3) (h4 : k ≠ 4) (x : List UInt8) (xs : List (List UInt8)) (hw : wordsL s = x :: xs) : Calls Tryz.prog 178 #[.agg (OC v k a b n s t)] w (RetL w ([(⟨2, 10, a, 0, n, x, []⟩ : Ol)]).length (([(⟨2, 10, a, 0, n, x, []⟩ : Ol)]).map lfO)) := by
  have hv0 := Blk.new w 145 (OC v k a b n s t)
  have B0 := bel_alloc (Below.refl w.heap.size w) (.cells (OC v k a b n s t) 145)
  have HM := Lib.hid (fun W x1 x2 x3 x4 x5 x6 => made_any 0 x1 x2 x3 x4 x5 x6 W)
  simp only [OC] at *
  have e1 : (k == 1) = false := by simpa using h1
  have e2 : (k == 2) = false := by simpa using h2
  have e3 : (k == 3) = false := by simpa using h3
  have e4 : (k == 4) = false := by simpa using h4
  have HW := Lib.hid (fun W => words_any s W (by omega))
  rw [hw] at HW
  clear h1 h2 h3 h4 hw
  go_enter Tryz.func178, Tryz.ntmps178
  go_wp2_with fail
  (with_reducible refine (HW.out _).mono ?_)
  rintro e w1 ⟨A1, n1, c1, rfl, ho1, hb1⟩
  have hv1 := hv0.below hb1 hv0.lt
  have B1 := bel_step B0 hb1
  have hn1 : 0 < n1 := by have := ho1.ss.len; rw [← this]; simp
  have hn1' : (0 : Int) < (n1 : Int) := by omega
  have d1 : ((n1 : Int) == 0) = false := by simp; omega
  have hss := ho1.ss
  clear hb1 hv0 B0 ho1
  go_wp2_with fail
  refine wp_region_seq (by kernel_rfl) [(0, true), (1, true), (2, true), (3, true), (4, true), (5, true), (6, true), (7, true), (8, false), (9, true)] (by kernel_rfl) rfl (by kernel_rfl) ?_
  intro w2 hb2
  have hv2 := hv1.below hb2 hv1.lt
  have B2 := bel_step B1 hb2
  have cv : ∀ W, Below w2.heap.size w2 W → Blk W w.heap.size 145 #[.int .i64 v, .int .i64 k, .int .i64 a, .int .i64 b, .int .i64 n, .string ⟨s.toArray⟩, .string ⟨t.toArray⟩] := fun W hW => hv2.below hW hv2.lt
  obtain ⟨y, g, off, rfl, hy, hgl, hc⟩ := Ss.at (hss.below hb2) hn1
  have hy := hy.out
  simp at hy
  subst hy
  rw [Nat.add_zero] at hc
  have hcW : ∀ W, Below w2.heap.size w2 W → W.cell? ⟨g, off, none⟩ = some (.string ⟨x.toArray⟩) := fun W hW => (hW.cell (p := ⟨g, off, none⟩) hgl).trans hc
  have c0 := fun W (hW : Below w2.heap.size w2 W) => (show W.cell? ⟨w.heap.size, 0, none⟩ = _ from ((cv W hW).cell 0).trans rfl)
  have c1 := fun W (hW : Below w2.heap.size w2 W) => (show W.cell? ⟨w.heap.size, 1, none⟩ = _ from ((cv W hW).cell 1).trans rfl)
  have c2 := fun W (hW : Below w2.heap.size w2 W) => (show W.cell? ⟨w.heap.size, 2, none⟩ = _ from ((cv W hW).cell 2).trans rfl)
  have c3 := fun W (hW : Below w2.heap.size w2 W) => (show W.cell? ⟨w.heap.size, 3, none⟩ = _ from ((cv W hW).cell 3).trans rfl)
  have c4 := fun W (hW : Below w2.heap.size w2 W) => (show W.cell? ⟨w.heap.size, 4, none⟩ = _ from ((cv W hW).cell 4).trans rfl)
  have c5 := fun W (hW : Below w2.heap.size w2 W) => (show W.cell? ⟨w.heap.size, 5, none⟩ = _ from ((cv W hW).cell 5).trans rfl)
  have c6 := fun W (hW : Below w2.heap.size w2 W) => (show W.cell? ⟨w.heap.size, 6, none⟩ = _ from ((cv W hW).cell 6).trans rfl)
  clear cv hv2 hb2 hv1 B1 hss hc
  iterate 8 (refine wpSeq_take (o := ⟨_, _, _, _, _, _⟩) (v := ?_) rfl rfl ?_ ?_; rotate_left; (focus (intro W hW; go_simp; first | done | with_reducible rfl)); simp only [Act.put, List.setIfInBounds_toArray, List.set_cons_zero, List.set_cons_succ])
  refine wpSeq_exec (o := ⟨_, _, _, _, _, _⟩) rfl rfl (fun K hK => ?_)
  go_simp
  (with_reducible refine (HM.out w2 _ _ _ _ _ _).mono ?_)
  rintro e w3 ⟨A3, c3_, rfl, ho3, hb3⟩
  go_wp2_with fail
  refine hK _ _ hb3 ?_
  clear hK K
  have B3 := bel_step B2 hb3
  iterate 1 (refine wpSeq_take (o := ⟨_, _, _, _, _, _⟩) (v := ?_) rfl rfl ?_ ?_; rotate_left; (focus (intro W hW; go_simp; first | done | with_reducible rfl)); simp only [Act.put, List.setIfInBounds_toArray, List.set_cons_zero, List.set_cons_succ])
  refine wpSeq_nil ?_
  go_wp2_with fail
  go_ret
  exact RetRow.of rfl (own_mono ho3 B2.size) B3
theorem oneNext_any (v k a b n : Int) (s t : List UInt8) (w : World) (hs : s.length ≤ 10000) (ht : t.length ≤ 10000) : Calls Tryz.prog 178 #[.agg (OC v k a b n s t)] w (RetL w (oneO k a b n s t).length ((oneO k a b n s t).map lfO)) := by
  unfold oneO
  by_cases h1 : k = 1
  · rw [if_pos h1, h1]; exact oneNext_1 v a b n s t w hs ht
  · rw [if_neg h1]
    by_cases h2 : k = 2
    · rw [if_pos h2, h2]; exact oneNext_2 v a b n s t w hs ht
    · rw [if_neg h2]
      by_cases h3 : k = 3
      · rw [if_pos h3, h3]; exact oneNext_3 v a b n s t w hs ht
      · rw [if_neg h3]
        by_cases h4 : k = 4
        · rw [if_pos h4, h4]
          by_cases hn : n < 0 ∨ 3 < n
          · rw [if_pos hn]; exact oneNext_4_no v a b n s t w hs ht hn
          · rw [if_neg hn]
            rcases (by omega : n = 0 ∨ n = 1 ∨ n = 2 ∨ n = 3) with rfl | rfl | rfl | rfl
            · exact oneNext_4_0 v a b 0 s t w hs ht
            · exact oneNext_4_1 v a b 0 s t w hs ht
            · exact oneNext_4_2 v a b 0 s t w hs ht
            · exact oneNext_4_3 v a b 0 s t w hs ht
        · rw [if_neg h4]
          cases hw : wordsL s with
          | nil => exact oneNext_w_no v a b n s t w hs ht k h1 h2 h3 h4 hw
          | cons x xs => exact oneNext_w_yes v a b n s t w hs ht k h1 h2 h3 h4 x xs hw
end Go.Proofs.YtfepinnfhcjopaaGreatDoor
end
