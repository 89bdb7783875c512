/-
  Queries' texts and what they lean on, part 28: only what the claims need.
-/
import Derived.Test.YtjjlmkleidbmhaaGreatDoorZ19
import Derived.Test.YtjjlmkleidbmhaaGreatDoorZ20
import Derived.Test.YtjjlmkleidbmhaaGreatDoorZ27
import Derived.ProofKit
import Derived.OpenShut
import Derived.ShutString
import Derived.ChangeOld
import Derived.Test.YtjjlmkleidbmhaaGreatDoorRows
import Derived.Test.YtjjlmkleidbmhaaGreatDoorZ01
import Derived.Lib.LaidTab
import Derived.LaidLaws
import Derived.Lib.SmallJoins
import Derived.Shelf.Vars
import Derived.Test.YtjjlmkleidbmhaaGreatDoorZ14
section
namespace Go.Proofs.YtjjlmkleidbmhaaGreatDoor
open Go.ChangeShapes Go.WideShapes Go.ChangeAt Go.Deep
open Go.RowKit Go.Nst
set_option maxRecDepth 100000
set_option linter.unusedVariables false
set_option linter.unusedSimpArgs false

/-- a literal of several queries -/
theorem lit_qs26 {w : World} (V : Nat → Array Value) (n : Nat) (cs : Array Value) (l : List Qy) (hcs : cs.toList = rowC V n) (hl : l.length = n) (hq : ∀ (i : Nat) (q : Qy), l[i]? = some q → QAt w (fun _ => True) (V i) q) {g : Nat} (hg : w.heap.size = g) : QsAt (w.alloc (.cells cs 25)) (fun _ => True) (some ⟨g, 0, none⟩) n l := by
  subst hg
  have h4 : ∀ i, i < n → (V i).size = 4 := fun i hi => (hq i _ (List.getElem?_eq_getElem (show i < l.length by omega))).size4
  refine ⟨hl, V, fun _ => ⟨_, _, rfl, trivial, by simp, fun i j u hi hu => ?_⟩, fun i q hi => (hq i q hi).bel (bel_alloc (Below.refl _ _) _)⟩
  have hj : j < 4 := by
    rcases Nat.lt_or_ge j 4 with h | h
    · exact h
    · rw [Array.getElem?_eq_none (by rw [h4 i hi]; exact h)] at hu; cases hu
  rw [show 0 + i * 4 + j = i * 4 + j by omega, (Blk.new w 25 cs).cell, ← Array.getElem?_toList, hcs, rowC_get V n h4 i j hi hj]
  exact hu
theorem plaQ_sml (q : Qy) : plaQ q = true → Sml q := by
  refine Qy.ind (p := fun q => plaQ q = true → Sml q) ?_ q
  intro o n s ks ih hp
  obtain ⟨h1, h2⟩ := pla_parts hp
  obtain ⟨k1, k2, k3⟩ := one_kids h1
  have hm := plaL_mem h2
  have hs : s.length ≤ 20000 := by
    by_cases h5 : o = 5
    · obtain ⟨_, _, e⟩ := k1 h5; rw [e]; simp
    by_cases h3 : o = 3
    · obtain ⟨_, _, e⟩ := k2 (.inl h3); rw [e]; simp
    by_cases h4 : o = 4
    · obtain ⟨_, _, e⟩ := k2 (.inr h4); rw [e]; simp
    · have hk0 := k3 h3 h4 h5
      rw [hk0] at h1
      have := leaf_short h3 h4 h5 h1
      omega
  exact .mk hs (fun k hk => ih k hk (hm k hk))
theorem ok_parts {q : Qy} (h : okQ q = true) : depQ q 1 ≤ 12 ∧ nodQ q ≤ 64 ∧ plaQ q = true := by
  unfold okQ at h
  simp only [Bool.and_eq_true, decide_eq_true_eq] at h
  exact ⟨h.1.1, h.1.2, h.2⟩
theorem ok_ask {q : Qy} (h : okQ q = true) : Ask q := by
  obtain ⟨h1, h2, h3⟩ := ok_parts h
  exact ask_of_small (by omega) (plaQ_sml q h3)
theorem ok_same {q : Qy} (h : okQ q = true) : samQ q q 1 = true := samQ_self q 1 (by have := (ok_parts h).1; omega)
theorem zero_ask : Ask .zero := ask_of_small (by decide) (.mk (by simp) (by simp))
theorem zero_at26 {w : World} {S : Nat → Prop} : QAt w S #[.int .i64 0, .int .i64 0, .string ⟨#[]⟩, .slice none 0 0] .zero := QAt.none26
def laV : Array Value := #[.int .i64 9, .int .i64 0, .string ⟨#[]⟩, .slice none 0 0]
def lbV : Array Value := #[.int .i64 8, .int .i64 0, .string ⟨#[103, 111]⟩, .slice none 0 0]
def lcV : Array Value := #[.int .i64 10, .int .i64 0, .string ⟨#[]⟩, .slice none 0 0]
theorem la_at {w : World} : QAt w (fun _ => True) laV ⟨9, 0, [], []⟩ := QAt.leaf (s := []) (i64P_lit (by omega)) (i64P_lit (by omega)) (by simp)
theorem lb_at {w : World} : QAt w (fun _ => True) lbV ⟨8, 0, [103, 111], []⟩ := QAt.leaf (s := [103, 111]) (i64P_lit (by omega)) (i64P_lit (by omega)) (by simp)
theorem lc_at {w : World} : QAt w (fun _ => True) lcV ⟨10, 0, [], []⟩ := QAt.leaf (s := []) (i64P_lit (by omega)) (i64P_lit (by omega)) (by simp)
abbrev lrow1 : Array Value := #[.int .i64 8, .int .i64 0, .string ⟨#[103, 111]⟩, .slice none 0 0, .int .i64 10, .int .i64 0, .string ⟨#[]⟩, .slice none 0 0]
abbrev lrow2 (g : Nat) : Array Value := #[.int .i64 9, .int .i64 0, .string ⟨#[]⟩, .slice none 0 0, .int .i64 4, .int .i64 0, .string ⟨#[]⟩, .slice (some ⟨g, 0, none⟩) 2 2]
/-- the law's query, laid in memory -/
theorem want26_at (w : World) : QAt ((w.alloc (.cells lrow1 25)).alloc (.cells (lrow2 w.heap.size) 25)) (fun _ => True) #[.int .i64 3, .int .i64 0, .string ⟨#[]⟩, .slice (some ⟨w.heap.size + 1, 0, none⟩) 2 2] wantQ := by
  have h1 := lit_qs26 (w := w) (fun i => if i = 0 then lbV else lcV) 2 lrow1 [⟨8, 0, [103, 111], []⟩, ⟨10, 0, [], []⟩] rfl rfl (fun i q hi => by
    match i, hi with
    | 0, hi => simp only [List.getElem?_cons_zero, Option.some.injEq] at hi; subst hi; exact lb_at
    | 1, hi => simp only [List.getElem?_cons_succ, List.getElem?_cons_zero, Option.some.injEq] at hi; subst hi; exact lc_at) rfl
  have h2 : QAt (w.alloc (.cells lrow1 25)) (fun _ => True) #[.int .i64 4, .int .i64 0, .string ⟨#[]⟩, .slice (some ⟨w.heap.size, 0, none⟩) 2 2] ⟨4, 0, [], [⟨8, 0, [103, 111], []⟩, ⟨10, 0, [], []⟩]⟩ := QAt.make (s := []) (i64P_lit (by omega)) (i64P_lit (by omega)) (by simp) ⟨Nat.le_refl _, by omega⟩ h1
  have h3 := lit_qs26 (w := w.alloc (.cells lrow1 25)) (fun i => if i = 0 then laV else #[.int .i64 4, .int .i64 0, .string ⟨#[]⟩, .slice (some ⟨w.heap.size, 0, none⟩) 2 2]) 2 (lrow2 w.heap.size) [⟨9, 0, [], []⟩, ⟨4, 0, [], [⟨8, 0, [103, 111], []⟩, ⟨10, 0, [], []⟩]⟩] rfl rfl (fun i q hi => by
    match i, hi with
    | 0, hi => simp only [List.getElem?_cons_zero, Option.some.injEq] at hi; subst hi; exact la_at
    | 1, hi => simp only [List.getElem?_cons_succ, List.getElem?_cons_zero, Option.some.injEq] at hi; subst hi; exact h2) (g := w.heap.size + 1) (by simp)
  exact QAt.make (s := []) (i64P_lit (by omega)) (i64P_lit (by omega)) (by simp) ⟨Nat.le_refl _, by omega⟩ h3
/-- what Parse gives, the query named -/
theorem parse_lit (s : List UInt8) (q : Qy) (n e : Int) (h : parD s = (q, n, e)) (hs : s.length ≤ 1000) (W : World) (hW : QpW W) : Calls Tryz.prog 9 #[.string ⟨s.toArray⟩] W (RetPs W (q, n, e)) := by
  rw [← h]
  exact Parse26_any s W (by omega) hW
set_option maxHeartbeats 16000000 in
theorem lives26_any (w : World) (hW : QpW w) : Calls Tryz.prog 8 #[] w (RetTrue w) := by
  have HW := Lib.hid hW
  obtain ⟨X, hX⟩ : ∃ X, X = wantQ := ⟨_, rfl⟩
  have HXW := Lib.hid hX
  obtain ⟨Z, hZ⟩ : ∃ Z, Z = Qy.zero := ⟨_, rfl⟩
  have HP1 := Lib.hid (fun W h => parse_lit [117, 110, 114, 101, 97, 100, 32, 40, 116, 97, 103, 58, 71, 111, 32, 111, 114, 32, 115, 116, 97, 114, 114, 101, 100, 41] X 26 0 (hX ▸ lv26_1) (by simp) W h)
  have HP2 := Lib.hid (fun W h => parse_lit [97, 32, 111, 114] Z 4 250 (hZ ▸ lv26_2) (by simp) W h)
  have HP3 := Lib.hid (fun W h => parse_lit [97, 32, 41, 32, 98] Z 2 250 (hZ ▸ lv26_3) (by simp) W h)
  have HP4 := Lib.hid (fun W h => parse_lit [110, 111, 116, 32, 110, 111, 116, 32, 40, 102, 101, 101, 100, 58, 48, 49, 41] Z 9 250 (hZ ▸ lv26_4) (by simp) W h)
  have HS1 := Lib.hid (fun vs W S (h : QpW W) (hq : QAt W S vs wantQ) => Show26_yes wantQ lv26_6 (ok_ask lv26_6) vs W S h hq)
  rw [lv26_5] at HS1
  have HS2 := Lib.hid (fun W => Show26_no .zero lv26_7 zero_ask _ W (fun _ => False) zero_at26)
  have HSM : Hid (samQ X wantQ 1 = true) := Lib.hid (by rw [hX]; exact lv26_8)
  have BB_0 := Lib.hid (Below.refl w.heap.size w)
  clear hX hZ hW
  go_enter Tryz.func8, Tryz.ntmps8
  have CP := Lib.hid (HP1.out _ (HW.out.keep BB_0.out))
  try simp only [qV] at CP
  go_wp2_with fail
  (with_reducible refine (CP.out).mono ?_)
  clear CP
  rintro e wp1 ⟨vp, rfl, hqp, hbp⟩
  have HQP := Lib.hid (hqp.wide (S' := fun _ => True) (fun _ _ _ => trivial))
  obtain ⟨Ap1, cp1, rfl, -, -, -, -, -, -⟩ := hqp.open_
  clear hqp
  have BB_1 := Lib.hid (bel_step BB_0.out hbp)
  clear BB_0
  clear hbp
  have QX_2 := Lib.hid (HQP.out)
  clear HQP
  try simp only [qV]
  have E_3 := bel_alloc (Below.refl wp1.heap.size wp1) (.cells (qV X.op X.n X.s Ap1 X.kids.length cp1) 25)
  have BB_3 := Lib.hid (bel_step BB_1.out E_3)
  have QX_4 := Lib.hid (QX_2.out.bel E_3)
  clear BB_1 QX_2
  clear E_3
  have X_5 := Lib.hid (Blk.new wp1 25 (qV X.op X.n X.s Ap1 X.kids.length cp1))
  have hwant := want26_at (wp1.alloc (.cells (qV X.op X.n X.s Ap1 X.kids.length cp1) 25))
  have E_6 := bel_alloc (Below.refl (wp1.alloc (.cells (qV X.op X.n X.s Ap1 X.kids.length cp1) 25)).heap.size (wp1.alloc (.cells (qV X.op X.n X.s Ap1 X.kids.length cp1) 25))) (.cells (lrow1) 25)
  have BB_6 := Lib.hid (bel_step BB_3.out E_6)
  have QX_7 := Lib.hid (QX_4.out.bel E_6)
  have X_8 := Lib.hid (X_5.out.below E_6 X_5.out.lt)
  clear BB_3 QX_4 X_5
  clear E_6
  have E_9 := bel_alloc (Below.refl ((wp1.alloc (.cells (qV X.op X.n X.s Ap1 X.kids.length cp1) 25)).alloc (.cells (lrow1) 25)).heap.size ((wp1.alloc (.cells (qV X.op X.n X.s Ap1 X.kids.length cp1) 25)).alloc (.cells (lrow1) 25))) (.cells (lrow2 (wp1.heap.size + 1)) 25)
  have BB_9 := Lib.hid (bel_step BB_6.out E_9)
  have QX_10 := Lib.hid (QX_7.out.bel E_9)
  have X_11 := Lib.hid (X_8.out.below E_9 X_8.out.lt)
  clear BB_6 QX_7 X_8
  clear E_9
  rw [show (wp1.alloc (.cells (qV X.op X.n X.s Ap1 X.kids.length cp1) 25)).heap.size = wp1.heap.size + 1 by simp] at hwant
  have QW_12 := Lib.hid (hwant)
  clear hwant
  have E_13 := bel_alloc (Below.refl (((wp1.alloc (.cells (qV X.op X.n X.s Ap1 X.kids.length cp1) 25)).alloc (.cells (lrow1) 25)).alloc (.cells (lrow2 (wp1.heap.size + 1)) 25)).heap.size (((wp1.alloc (.cells (qV X.op X.n X.s Ap1 X.kids.length cp1) 25)).alloc (.cells (lrow1) 25)).alloc (.cells (lrow2 (wp1.heap.size + 1)) 25))) (.cells (#[.int .i64 3, .int .i64 0, .string ⟨#[]⟩, .slice (some ⟨wp1.heap.size + 1 + 1, 0, none⟩) 2 2]) 25)
  have BB_13 := Lib.hid (bel_step BB_9.out E_13)
  have QX_14 := Lib.hid (QX_10.out.bel E_13)
  have X_15 := Lib.hid (X_11.out.below E_13 X_11.out.lt)
  have QW_16 := Lib.hid (QW_12.out.bel E_13)
  clear BB_9 QX_10 X_11 QW_12
  clear E_13
  have WW_17 := Lib.hid (Blk.new (((wp1.alloc (.cells (qV X.op X.n X.s Ap1 X.kids.length cp1) 25)).alloc (.cells (lrow1) 25)).alloc (.cells (lrow2 (wp1.heap.size + 1)) 25)) 25 (#[.int .i64 3, .int .i64 0, .string ⟨#[]⟩, .slice (some ⟨wp1.heap.size + 1 + 1, 0, none⟩) 2 2]))
  rw [show (((wp1.alloc (.cells (qV X.op X.n X.s Ap1 X.kids.length cp1) 25)).alloc (.cells (lrow1) 25)).alloc (.cells (lrow2 (wp1.heap.size + 1)) 25)).heap.size = wp1.heap.size + 1 + 1 + 1 by simp] at WW_17
  have CP := Lib.hid (HP2.out _ (HW.out.keep BB_13.out))
  try simp only [qV] at CP
  go_wp2_with fail
  (with_reducible refine (CP.out).mono ?_)
  clear CP
  rintro e wp2 ⟨vp, rfl, hqp, hbp⟩
  have HQP := Lib.hid (hqp.wide (S' := fun _ => True) (fun _ _ _ => trivial))
  obtain ⟨Ap2, cp2, rfl, -, -, -, -, -, -⟩ := hqp.open_
  clear hqp
  have BB_18 := Lib.hid (bel_step BB_13.out hbp)
  have QX_19 := Lib.hid (QX_14.out.bel hbp)
  have X_20 := Lib.hid (X_15.out.below hbp X_15.out.lt)
  have QW_21 := Lib.hid (QW_16.out.bel hbp)
  have WW_22 := Lib.hid (WW_17.out.below hbp WW_17.out.lt)
  clear BB_13 QX_14 X_15 QW_16 WW_17
  clear hbp
  clear HQP
  try simp only [qV]
  have E_23 := bel_alloc (Below.refl wp2.heap.size wp2) (.cells (qV Z.op Z.n Z.s Ap2 Z.kids.length cp2) 25)
  have BB_23 := Lib.hid (bel_step BB_18.out E_23)
  have QX_24 := Lib.hid (QX_19.out.bel E_23)
  have X_25 := Lib.hid (X_20.out.below E_23 X_20.out.lt)
  have QW_26 := Lib.hid (QW_21.out.bel E_23)
  have WW_27 := Lib.hid (WW_22.out.below E_23 WW_22.out.lt)
  clear BB_18 QX_19 X_20 QW_21 WW_22
  clear E_23
  have U2_28 := Lib.hid (Blk.new wp2 25 (qV Z.op Z.n Z.s Ap2 Z.kids.length cp2))
  clear U2_28
  have CP := Lib.hid (HP3.out _ (HW.out.keep BB_23.out))
  try simp only [qV] at CP
  go_wp2_with fail
  (with_reducible refine (CP.out).mono ?_)
  clear CP
  rintro e wp3 ⟨vp, rfl, hqp, hbp⟩
  have HQP := Lib.hid (hqp.wide (S' := fun _ => True) (fun _ _ _ => trivial))
  obtain ⟨Ap3, cp3, rfl, -, -, -, -, -, -⟩ := hqp.open_
  clear hqp
  have BB_29 := Lib.hid (bel_step BB_23.out hbp)
  have QX_30 := Lib.hid (QX_24.out.bel hbp)
  have X_31 := Lib.hid (X_25.out.below hbp X_25.out.lt)
  have QW_32 := Lib.hid (QW_26.out.bel hbp)
  have WW_33 := Lib.hid (WW_27.out.below hbp WW_27.out.lt)
  clear BB_23 QX_24 X_25 QW_26 WW_27
  clear hbp
  clear HQP
  try simp only [qV]
  have E_34 := bel_alloc (Below.refl wp3.heap.size wp3) (.cells (qV Z.op Z.n Z.s Ap3 Z.kids.length cp3) 25)
  have BB_34 := Lib.hid (bel_step BB_29.out E_34)
  have QX_35 := Lib.hid (QX_30.out.bel E_34)
  have X_36 := Lib.hid (X_31.out.below E_34 X_31.out.lt)
  have QW_37 := Lib.hid (QW_32.out.bel E_34)
  have WW_38 := Lib.hid (WW_33.out.below E_34 WW_33.out.lt)
  clear BB_29 QX_30 X_31 QW_32 WW_33
  clear E_34
  have U3_39 := Lib.hid (Blk.new wp3 25 (qV Z.op Z.n Z.s Ap3 Z.kids.length cp3))
  clear U3_39
  have CP := Lib.hid (HP4.out _ (HW.out.keep BB_34.out))
  try simp only [qV] at CP
  go_wp2_with fail
  (with_reducible refine (CP.out).mono ?_)
  clear CP
  rintro e wp4 ⟨vp, rfl, hqp, hbp⟩
  have HQP := Lib.hid (hqp.wide (S' := fun _ => True) (fun _ _ _ => trivial))
  obtain ⟨Ap4, cp4, rfl, -, -, -, -, -, -⟩ := hqp.open_
  clear hqp
  have BB_40 := Lib.hid (bel_step BB_34.out hbp)
  have QX_41 := Lib.hid (QX_35.out.bel hbp)
  have X_42 := Lib.hid (X_36.out.below hbp X_36.out.lt)
  have QW_43 := Lib.hid (QW_37.out.bel hbp)
  have WW_44 := Lib.hid (WW_38.out.below hbp WW_38.out.lt)
  clear BB_34 QX_35 X_36 QW_37 WW_38
  clear hbp
  clear HQP
  try simp only [qV]
  have E_45 := bel_alloc (Below.refl wp4.heap.size wp4) (.cells (qV Z.op Z.n Z.s Ap4 Z.kids.length cp4) 25)
  have BB_45 := Lib.hid (bel_step BB_40.out E_45)
  have QX_46 := Lib.hid (QX_41.out.bel E_45)
  have X_47 := Lib.hid (X_42.out.below E_45 X_42.out.lt)
  have QW_48 := Lib.hid (QW_43.out.bel E_45)
  have WW_49 := Lib.hid (WW_44.out.below E_45 WW_44.out.lt)
  clear BB_40 QX_41 X_42 QW_43 WW_44
  clear E_45
  have U4_50 := Lib.hid (Blk.new wp4 25 (qV Z.op Z.n Z.s Ap4 Z.kids.length cp4))
  clear U4_50
  have C1 := Lib.hid (HS1.out _ _ _ (HW.out.keep BB_45.out) QW_48.out)
  try simp only [qV] at C1
  obtain ⟨zww0, zww1, zww2, zww3⟩ := box_facts WW_49.out
  try simp only [qV] at zww0 zww1 zww2 zww3
  go_wp2_with fail
  clear zww0 zww1 zww2 zww3
  (with_reducible refine (C1.out).mono ?_)
  rintro e w1 ⟨rfl, hb1⟩
  have BB_51 := Lib.hid (bel_step BB_45.out hb1)
  have QX_52 := Lib.hid (QX_46.out.bel hb1)
  have X_53 := Lib.hid (X_47.out.below hb1 X_47.out.lt)
  have QW_54 := Lib.hid (QW_48.out.bel hb1)
  have WW_55 := Lib.hid (WW_49.out.below hb1 WW_49.out.lt)
  clear BB_45 QX_46 X_47 QW_48 WW_49
  clear C1 hb1
  go_wp2_with fail
  (with_reducible refine (HS2.out _).mono ?_)
  rintro e w2 ⟨rfl, hb2⟩
  have BB_56 := Lib.hid (bel_step BB_51.out hb2)
  have QX_57 := Lib.hid (QX_52.out.bel hb2)
  have X_58 := Lib.hid (X_53.out.below hb2 X_53.out.lt)
  have QW_59 := Lib.hid (QW_54.out.bel hb2)
  have WW_60 := Lib.hid (WW_55.out.below hb2 WW_55.out.lt)
  clear BB_51 QX_52 X_53 QW_54 WW_55
  clear hb2
  have C2 := Lib.hid (refSame_any25 X wantQ _ _ _ _ _ QX_57.out QW_59.out)
  rw [HSM.out] at C2
  try simp only [qV] at C2
  obtain ⟨zx0, zx1, zx2, zx3⟩ := box_facts X_58.out
  obtain ⟨zww0, zww1, zww2, zww3⟩ := box_facts WW_60.out
  try simp only [qV] at zx0 zx1 zx2 zx3 zww0 zww1 zww2 zww3
  go_wp2_with fail
  clear zx0 zx1 zx2 zx3 zww0 zww1 zww2 zww3
  (with_reducible refine (C2.out).mono ?_)
  rintro e w3 ⟨rfl, hb3⟩
  have BB_61 := Lib.hid (bel_step BB_56.out hb3)
  have QX_62 := Lib.hid (QX_57.out.bel hb3)
  have X_63 := Lib.hid (X_58.out.below hb3 X_58.out.lt)
  have QW_64 := Lib.hid (QW_59.out.bel hb3)
  have WW_65 := Lib.hid (WW_60.out.below hb3 WW_60.out.lt)
  clear BB_56 QX_57 X_58 QW_59 WW_60
  go_wp2_with fail
  go_ret
  exact ⟨rfl, BB_61.out⟩

end Go.Proofs.YtjjlmkleidbmhaaGreatDoor
end
section
namespace Go.Proofs.YtjjlmkleidbmhaaGreatDoor
open Go.ChangeShapes Go.WideShapes Go.ChangeAt Go.Deep
open Go.RowKit Go.Nst
set_option maxRecDepth 100000
set_option linter.unusedVariables false
set_option linter.unusedSimpArgs false

/-- a query handed back with two numbers -/
def RetPq (w : World) (q : Qy) (n e : Int) (en : Ending) (w' : World) : Prop := ∃ A c, en = .returned (.tuple #[.agg (qV q.op q.n q.s A q.kids.length c), .int .i64 n, .int .i64 e]) ∧ QAt w' (fun _ => True) (qV q.op q.n q.s A q.kids.length c) q ∧ Below w.heap.size w w'
theorem ret_pq {w w' : World} {r : Qy × Int × Int} {en : Ending} (h : RetPs w r en w') : RetPq w r.1 r.2.1 r.2.2 en w' := by
  obtain ⟨vs, rfl, hq, hb⟩ := h
  have hq2 := hq.wide (S' := fun _ => True) (fun _ _ _ => trivial)
  obtain ⟨A, c, rfl, -, -, -, -, -, -⟩ := hq.open_
  exact ⟨A, c, rfl, hq2, hb⟩
theorem parse_pq (s : List UInt8) (hs : s.length ≤ 9223372036854775807) (W : World) (hW : QpW W) : Calls Tryz.prog 9 #[.string ⟨s.toArray⟩] W (RetPq W (parD s).1 (parD s).2.1 (parD s).2.2) := (Parse26_any s W hs hW).mono fun _ _ h => ret_pq h
theorem rparse_pq (s : List UInt8) (hs : s.length ≤ 9223372036854775807) (W : World) : Calls Tryz.prog 10 #[.string ⟨s.toArray⟩] W (RetPq W (parD s).1 (parD s).2.1 (parD s).2.2) := (rParse26_any s W hs).mono fun _ _ h => ret_pq h
theorem zero_same26 : samQ .zero .zero 1 = true := by rfl
theorem par_good (s : List UInt8) : samQ (parD s).1 (parD s).1 1 = true := by
  by_cases h : (parD s).2.2 = 0
  · exact ok_same (prsD_ok h).2.1
  · rw [show (parD s).1 = Qy.zero from prsD_no h]; rfl
theorem par_ok {s : List UInt8} (h : (parD s).2.2 = 0) : okQ (parD s).1 = true := (prsD_ok h).2.1
theorem par_no {s : List UInt8} (h : (parD s).2.2 ≠ 0) : (parD s).1 = .zero := prsD_no h
theorem askq_of {q : Qy} (h : decide (leftQ q 0 300 ≤ 0) = false) : Ask q := by
  intro hd
  have h0 : 0 < leftQ q 0 300 := by simpa using h
  have := left_pos q 0 1 300 (by omega) (by simpa using (by omega : depQ q 1 ≤ 64)) (by omega) h0
  exact ⟨by have := this.1; omega, this.2⟩

set_option maxHeartbeats 8000000 in
theorem qparseReads_walk (s : List UInt8) (w : World) (hs : s.length ≤ 9223372036854775807) (hW : QpW w) : Calls Tryz.prog 3 #[.string ⟨s.toArray⟩] w (RetTrue w) := by
  have hz : (ByteArray.mk s.toArray).size = s.length := size_of s
  have HW := Lib.hid hW
  have HL := Lib.hid (fun W h => lives26_any W h)
  have HP := Lib.hid (fun W h => parse_pq s hs W h)
  have HR := Lib.hid (fun W => rparse_pq s hs W)
  have HSM := Lib.hid (par_good s)
  generalize (parD s).1 = X at *
  generalize (parD s).2.1 = n at *
  generalize (parD s).2.2 = g at *
  have BB_0 := Lib.hid (Below.refl w.heap.size w)
  clear hW
  by_cases h2 : 2000 < s.length
  · have d1 : decide (2000 < s.length) = true := by simp; omega
    have d2 : decide ((2000 : Int) < (s.length : Int)) = true := by simp; omega
    clear h2
    go_enter Tryz.func3, Tryz.ntmps3
    have CP := Lib.hid (HL.out _ (HW.out.keep BB_0.out))
    try simp only [qV] at CP
    go_wp2_with fail
    (with_reducible refine (CP.out).mono ?_)
    rintro e w1 ⟨rfl, hb1⟩
    have BB_1 := Lib.hid (bel_step BB_0.out hb1)
    clear BB_0
    clear CP
    go_wp2_with fail
    go_ret
    exact ⟨rfl, BB_1.out⟩
  · have d1 : decide (2000 < s.length) = false := by simp; omega
    have d2 : decide ((2000 : Int) < (s.length : Int)) = false := by simp; omega
    clear h2
    go_enter Tryz.func3, Tryz.ntmps3
    have CP := Lib.hid (HP.out _ (HW.out.keep BB_0.out))
    try simp only [qV] at CP
    go_wp2_with fail
    (with_reducible refine (CP.out).mono ?_)
    clear CP
    rintro e wp1 ⟨Ap1, cp1, rfl, hqp, hbp⟩
    have HQP := Lib.hid hqp
    clear hqp
    have BB_1 := Lib.hid (bel_step BB_0.out hbp)
    clear BB_0
    clear hbp
    have QX_2 := Lib.hid (HQP.out)
    clear HQP
    try simp only [qV]
    have E_3 := bel_alloc (Below.refl wp1.heap.size wp1) (.cells (qV X.op X.n X.s Ap1 X.kids.length cp1) 25)
    have BB_3 := Lib.hid (bel_step BB_1.out E_3)
    have QX_4 := Lib.hid (QX_2.out.bel E_3)
    clear BB_1 QX_2
    clear E_3
    have X_5 := Lib.hid (Blk.new wp1 25 (qV X.op X.n X.s Ap1 X.kids.length cp1))
    have CP := Lib.hid (HR.out (wp1.alloc (.cells (qV X.op X.n X.s Ap1 X.kids.length cp1) 25)))
    try simp only [qV] at CP
    go_wp2_with fail
    (with_reducible refine (CP.out).mono ?_)
    clear CP
    rintro e wp2 ⟨Ap2, cp2, rfl, hqp, hbp⟩
    have HQP := Lib.hid hqp
    clear hqp
    have BB_6 := Lib.hid (bel_step BB_3.out hbp)
    have QX_7 := Lib.hid (QX_4.out.bel hbp)
    have X_8 := Lib.hid (X_5.out.below hbp X_5.out.lt)
    clear BB_3 QX_4 X_5
    clear hbp
    have QY_9 := Lib.hid (HQP.out)
    clear HQP
    try simp only [qV]
    have E_10 := bel_alloc (Below.refl wp2.heap.size wp2) (.cells (qV X.op X.n X.s Ap2 X.kids.length cp2) 25)
    have BB_10 := Lib.hid (bel_step BB_6.out E_10)
    have QX_11 := Lib.hid (QX_7.out.bel E_10)
    have X_12 := Lib.hid (X_8.out.below E_10 X_8.out.lt)
    have QY_13 := Lib.hid (QY_9.out.bel E_10)
    clear BB_6 QX_7 X_8 QY_9
    clear E_10
    have Y_14 := Lib.hid (Blk.new wp2 25 (qV X.op X.n X.s Ap2 X.kids.length cp2))
    have CP := Lib.hid (HL.out _ (HW.out.keep BB_10.out))
    try simp only [qV] at CP
    go_wp2_with fail
    (with_reducible refine (CP.out).mono ?_)
    rintro e w1 ⟨rfl, hb1⟩
    have BB_15 := Lib.hid (bel_step BB_10.out hb1)
    have QX_16 := Lib.hid (QX_11.out.bel hb1)
    have X_17 := Lib.hid (X_12.out.below hb1 X_12.out.lt)
    have QY_18 := Lib.hid (QY_13.out.bel hb1)
    have Y_19 := Lib.hid (Y_14.out.below hb1 Y_14.out.lt)
    clear BB_10 QX_11 X_12 QY_13 Y_14
    clear CP
    have C2 := Lib.hid (refSame_any25 X X _ _ _ _ _ QX_16.out QY_18.out)
    rw [HSM.out] at C2
    try simp only [qV] at C2
    obtain ⟨zx0, zx1, zx2, zx3⟩ := box_facts X_17.out
    obtain ⟨zy0, zy1, zy2, zy3⟩ := box_facts Y_19.out
    try simp only [qV] at zx0 zx1 zx2 zx3 zy0 zy1 zy2 zy3
    go_wp2_with fail
    clear zx0 zx1 zx2 zx3 zy0 zy1 zy2 zy3
    (with_reducible refine (C2.out).mono ?_)
    rintro e w2 ⟨rfl, hb2⟩
    have BB_20 := Lib.hid (bel_step BB_15.out hb2)
    have QX_21 := Lib.hid (QX_16.out.bel hb2)
    have X_22 := Lib.hid (X_17.out.below hb2 X_17.out.lt)
    have QY_23 := Lib.hid (QY_18.out.bel hb2)
    have Y_24 := Lib.hid (Y_19.out.below hb2 Y_19.out.lt)
    clear BB_15 QX_16 X_17 QY_18 Y_19
    go_wp2_with fail
    go_ret
    exact ⟨rfl, BB_20.out⟩

set_option maxHeartbeats 8000000 in
theorem qparseShows_walk (q : Qy) (vs : Array Value) (w : World) (hq : QAt w (fun _ => True) vs q) (hW : QpW w) : Calls Tryz.prog 4 #[.agg vs] w (RetTrue w) := by
  have B0 := bel_alloc (Below.refl w.heap.size w) (.cells vs 25)
  have HX0 := Lib.hid (Blk.new w 25 vs)
  have HQ0 := Lib.hid (hq.bel B0)
  have HW := Lib.hid hW
  have HLV := Lib.hid (fun W h => lives26_any W h)
  have HL := Lib.hid (Large25_any q vs _ _ HQ0.out)
  have hlg : ∀ b, decide (leftQ q 0 300 ≤ 0) = b → (b = false → Ask q) := fun b h hb => askq_of (h.trans hb)
  generalize decide (leftQ q 0 300 ≤ 0) = lg at *
  have HASK := Lib.hid (hlg lg rfl)
  clear hlg hW
  obtain ⟨A, c, rfl, -, -, -, -, -, -⟩ := hq.open_
  clear hq
  simp only [qV] at HL B0 ⊢
  go_enter Tryz.func4, Tryz.ntmps4
  go_wp2_with fail
  have HX_0 := HX0
  have HQ_0 := HQ0
  have BB_0 := Lib.hid B0
  clear HX0 HQ0 B0
  (with_reducible refine (HL.out).mono ?_)
  rintro e w1 ⟨rfl, hb1⟩
  have HX_1 := Lib.hid (HX_0.out.below hb1 HX_0.out.lt)
  have HQ_2 := Lib.hid (HQ_0.out.bel hb1)
  have BB_3 := Lib.hid (bel_step BB_0.out hb1)
  clear HX_0 HQ_0 BB_0
  cases lg with
  | true =>
    have CP := Lib.hid (HLV.out _ (HW.out.keep BB_3.out))
    try simp only [qV] at CP
    go_wp2_with fail
    (with_reducible refine (CP.out).mono ?_)
    rintro e w2 ⟨rfl, hb2⟩
    have HX_4 := Lib.hid (HX_1.out.below hb2 HX_1.out.lt)
    have HQ_5 := Lib.hid (HQ_2.out.bel hb2)
    have BB_6 := Lib.hid (bel_step BB_3.out hb2)
    clear HX_1 HQ_2 BB_3
    clear CP
    go_wp2_with fail
    go_ret
    exact ⟨rfl, BB_6.out⟩
  | false =>
    have hask := HASK.out (by simp)
    have HCK := Lib.hid (fun W vs S hW => refCheck25_any q hask vs W S hW)
    cases hok : okQ q with
    | false =>
      rw [hok] at HCK
      have HN := Lib.hid (Show26_no q hok hask _ _ _ HQ_2.out)
      clear hask hok
      try simp only [qV] at HN
      obtain ⟨zhx0, zhx1, zhx2, zhx3⟩ := box_facts HX_1.out
      try simp only [qV] at zhx0 zhx1 zhx2 zhx3
      go_wp2_with fail
      clear zhx0 zhx1 zhx2 zhx3
      (with_reducible refine (HN.out).mono ?_)
      rintro e w2 ⟨rfl, hb2⟩
      have HX_4 := Lib.hid (HX_1.out.below hb2 HX_1.out.lt)
      have HQ_5 := Lib.hid (HQ_2.out.bel hb2)
      have BB_6 := Lib.hid (bel_step BB_3.out hb2)
      clear HX_1 HQ_2 BB_3
      have CP := Lib.hid (HLV.out _ (HW.out.keep BB_6.out))
      try simp only [qV] at CP
      go_wp2_with fail
      (with_reducible refine (CP.out).mono ?_)
      rintro e w3 ⟨rfl, hb3⟩
      have HX_7 := Lib.hid (HX_4.out.below hb3 HX_4.out.lt)
      have HQ_8 := Lib.hid (HQ_5.out.bel hb3)
      have BB_9 := Lib.hid (bel_step BB_6.out hb3)
      clear HX_4 HQ_5 BB_6
      clear CP
      have HC1 := Lib.hid (HCK.out _ _ _ HQ_8.out)
      try simp only [qV] at HC1
      obtain ⟨zhx0, zhx1, zhx2, zhx3⟩ := box_facts HX_7.out
      try simp only [qV] at zhx0 zhx1 zhx2 zhx3
      go_wp2_with fail
      clear zhx0 zhx1 zhx2 zhx3
      (with_reducible refine (HC1.out).mono ?_)
      rintro e w4 ⟨rfl, hb4⟩
      have HX_10 := Lib.hid (HX_7.out.below hb4 HX_7.out.lt)
      have HQ_11 := Lib.hid (HQ_8.out.bel hb4)
      have BB_12 := Lib.hid (bel_step BB_9.out hb4)
      clear HX_7 HQ_8 BB_9
      go_wp2_with fail
      go_ret
      exact ⟨rfl, BB_12.out⟩
    | true =>
      rw [hok] at HCK
      obtain ⟨-, hnd, hpl⟩ := ok_parts hok
      have HR := Lib.hid (fun vs W S hq => rShow26_any q vs W S hpl hnd hq)
      have HN := Lib.hid (Show26_yes q hok hask _ _ _ (HW.out.keep BB_3.out) HQ_2.out)
      generalize shwD q = t at *
      clear hask hok hnd hpl
      try simp only [qV] at HN
      obtain ⟨zhx0, zhx1, zhx2, zhx3⟩ := box_facts HX_1.out
      try simp only [qV] at zhx0 zhx1 zhx2 zhx3
      go_wp2_with fail
      clear zhx0 zhx1 zhx2 zhx3
      (with_reducible refine (HN.out).mono ?_)
      rintro e w2 ⟨rfl, hb2⟩
      have HX_4 := Lib.hid (HX_1.out.below hb2 HX_1.out.lt)
      have HQ_5 := Lib.hid (HQ_2.out.bel hb2)
      have BB_6 := Lib.hid (bel_step BB_3.out hb2)
      clear HX_1 HQ_2 BB_3
      have CP := Lib.hid (HLV.out _ (HW.out.keep BB_6.out))
      try simp only [qV] at CP
      go_wp2_with fail
      (with_reducible refine (CP.out).mono ?_)
      rintro e w3 ⟨rfl, hb3⟩
      have HX_7 := Lib.hid (HX_4.out.below hb3 HX_4.out.lt)
      have HQ_8 := Lib.hid (HQ_5.out.bel hb3)
      have BB_9 := Lib.hid (bel_step BB_6.out hb3)
      clear HX_4 HQ_5 BB_6
      clear CP
      have HC1 := Lib.hid (HCK.out _ _ _ HQ_8.out)
      try simp only [qV] at HC1
      obtain ⟨zhx0, zhx1, zhx2, zhx3⟩ := box_facts HX_7.out
      try simp only [qV] at zhx0 zhx1 zhx2 zhx3
      go_wp2_with fail
      clear zhx0 zhx1 zhx2 zhx3
      (with_reducible refine (HC1.out).mono ?_)
      rintro e w4 ⟨rfl, hb4⟩
      have HX_10 := Lib.hid (HX_7.out.below hb4 HX_7.out.lt)
      have HQ_11 := Lib.hid (HQ_8.out.bel hb4)
      have BB_12 := Lib.hid (bel_step BB_9.out hb4)
      clear HX_7 HQ_8 BB_9
      have HC2 := Lib.hid (HR.out _ _ _ HQ_11.out)
      try simp only [qV] at HC2
      obtain ⟨zhx0, zhx1, zhx2, zhx3⟩ := box_facts HX_10.out
      try simp only [qV] at zhx0 zhx1 zhx2 zhx3
      go_wp2_with fail
      clear zhx0 zhx1 zhx2 zhx3
      (with_reducible refine (HC2.out).mono ?_)
      rintro e w5 ⟨rfl, hb5⟩
      have HX_13 := Lib.hid (HX_10.out.below hb5 HX_10.out.lt)
      have HQ_14 := Lib.hid (HQ_11.out.bel hb5)
      have BB_15 := Lib.hid (bel_step BB_12.out hb5)
      clear HX_10 HQ_11 BB_12
      go_wp2_with fail
      go_ret
      exact ⟨rfl, BB_15.out⟩

/-- what is shown, and parsed -/
theorem back_cases {q : Qy} (h : okQ q = true) : (512 < (shwD q).length ∧ (parD (shwD q)).1 = .zero ∧ (parD (shwD q)).2.1 = 0 ∧ (parD (shwD q)).2.2 = 3) ∨ (¬ 512 < (shwD q).length ∧ (parD (shwD q)).1 = q ∧ (parD (shwD q)).2.1 = (shwD q).length ∧ (parD (shwD q)).2.2 = 0) := by
  have hb := back_law h
  split at hb
  · rename_i h2; left; rw [hb]; exact ⟨h2, rfl, rfl, rfl⟩
  · rename_i h2; right; rw [hb]; exact ⟨h2, rfl, rfl, rfl⟩
set_option maxHeartbeats 8000000 in
theorem qparseBack_walk (q : Qy) (vs : Array Value) (w : World) (hq : QAt w (fun _ => True) vs q) (hW : QpW w) : Calls Tryz.prog 5 #[.agg vs] w (RetTrue w) := by
  have B0 := bel_alloc (Below.refl w.heap.size w) (.cells vs 25)
  have HX0 := Lib.hid (Blk.new w 25 vs)
  have HQ0 := Lib.hid (hq.bel B0)
  have HW := Lib.hid hW
  have HLV := Lib.hid (fun W h => lives26_any W h)
  have HL := Lib.hid (Large25_any q vs _ _ HQ0.out)
  have hlg : ∀ b, decide (leftQ q 0 300 ≤ 0) = b → (b = false → Ask q) := fun b h hb => askq_of (h.trans hb)
  generalize decide (leftQ q 0 300 ≤ 0) = lg at *
  have HASK := Lib.hid (hlg lg rfl)
  clear hlg hW
  obtain ⟨A, c, rfl, -, -, -, -, -, -⟩ := hq.open_
  clear hq
  simp only [qV] at HL B0 ⊢
  go_enter Tryz.func5, Tryz.ntmps5
  go_wp2_with fail
  have HX_0 := HX0
  have HQ_0 := HQ0
  have BB_0 := Lib.hid B0
  clear HX0 HQ0 B0
  (with_reducible refine (HL.out).mono ?_)
  rintro e w1 ⟨rfl, hb1⟩
  have HX_1 := Lib.hid (HX_0.out.below hb1 HX_0.out.lt)
  have HQ_2 := Lib.hid (HQ_0.out.bel hb1)
  have BB_3 := Lib.hid (bel_step BB_0.out hb1)
  clear HX_0 HQ_0 BB_0
  cases lg with
  | true =>
    have CP := Lib.hid (HLV.out _ (HW.out.keep BB_3.out))
    try simp only [qV] at CP
    go_wp2_with fail
    (with_reducible refine (CP.out).mono ?_)
    rintro e w2 ⟨rfl, hb2⟩
    have HX_4 := Lib.hid (HX_1.out.below hb2 HX_1.out.lt)
    have HQ_5 := Lib.hid (HQ_2.out.bel hb2)
    have BB_6 := Lib.hid (bel_step BB_3.out hb2)
    clear HX_1 HQ_2 BB_3
    clear CP
    go_wp2_with fail
    go_ret
    exact ⟨rfl, BB_6.out⟩
  | false =>
    have hask := HASK.out (by simp)
    have HCK := Lib.hid (refCheck25_any q hask _ _ _ HQ_2.out)
    try simp only [qV] at HCK
    cases hok : okQ q with
    | false =>
      rw [hok] at HCK
      clear hask hok
      obtain ⟨zhx0, zhx1, zhx2, zhx3⟩ := box_facts HX_1.out
      try simp only [qV] at zhx0 zhx1 zhx2 zhx3
      go_wp2_with fail
      clear zhx0 zhx1 zhx2 zhx3
      (with_reducible refine (HCK.out).mono ?_)
      rintro e w2 ⟨rfl, hb2⟩
      have HX_4 := Lib.hid (HX_1.out.below hb2 HX_1.out.lt)
      have HQ_5 := Lib.hid (HQ_2.out.bel hb2)
      have BB_6 := Lib.hid (bel_step BB_3.out hb2)
      clear HX_1 HQ_2 BB_3
      have CP := Lib.hid (HLV.out _ (HW.out.keep BB_6.out))
      try simp only [qV] at CP
      go_wp2_with fail
      (with_reducible refine (CP.out).mono ?_)
      rintro e w3 ⟨rfl, hb3⟩
      have HX_7 := Lib.hid (HX_4.out.below hb3 HX_4.out.lt)
      have HQ_8 := Lib.hid (HQ_5.out.bel hb3)
      have BB_9 := Lib.hid (bel_step BB_6.out hb3)
      clear HX_4 HQ_5 BB_6
      clear CP
      go_wp2_with fail
      go_ret
      exact ⟨rfl, BB_9.out⟩
    | true =>
      rw [hok] at HCK
      obtain ⟨-, hnd, hpl⟩ := ok_parts hok
      have hsl := shown_len q hpl
      have HSM := Lib.hid (ok_same hok)
      have HBC := Lib.hid (back_cases hok)
      have HN := Lib.hid (fun vs W S h1 h2 => Show26_yes q hok hask vs W S h1 h2)
      have HP := Lib.hid (fun W h => parse_pq (shwD q) (by omega) W h)
      generalize (parD (shwD q)).1 = X at *
      generalize (parD (shwD q)).2.1 = n at *
      generalize (parD (shwD q)).2.2 = g at *
      generalize shwD q = t at *
      have hz : (ByteArray.mk t.toArray).size = t.length := size_of t
      have hl2 : t.length ≤ 20000 := by omega
      clear hask hok hnd hpl hsl
      obtain ⟨zhx0, zhx1, zhx2, zhx3⟩ := box_facts HX_1.out
      try simp only [qV] at zhx0 zhx1 zhx2 zhx3
      go_wp2_with fail
      clear zhx0 zhx1 zhx2 zhx3
      (with_reducible refine (HCK.out).mono ?_)
      rintro e w2 ⟨rfl, hb2⟩
      have HX_4 := Lib.hid (HX_1.out.below hb2 HX_1.out.lt)
      have HQ_5 := Lib.hid (HQ_2.out.bel hb2)
      have BB_6 := Lib.hid (bel_step BB_3.out hb2)
      clear HX_1 HQ_2 BB_3
      have HC1 := Lib.hid (HN.out _ _ _ (HW.out.keep BB_6.out) HQ_5.out)
      try simp only [qV] at HC1
      obtain ⟨zhx0, zhx1, zhx2, zhx3⟩ := box_facts HX_4.out
      try simp only [qV] at zhx0 zhx1 zhx2 zhx3
      go_wp2_with fail
      clear zhx0 zhx1 zhx2 zhx3
      (with_reducible refine (HC1.out).mono ?_)
      rintro e w3 ⟨rfl, hb3⟩
      have HX_7 := Lib.hid (HX_4.out.below hb3 HX_4.out.lt)
      have HQ_8 := Lib.hid (HQ_5.out.bel hb3)
      have BB_9 := Lib.hid (bel_step BB_6.out hb3)
      clear HX_4 HQ_5 BB_6
      rcases HBC.out with ⟨h2, rfl, rfl, rfl⟩ | ⟨h2, rfl, rfl, rfl⟩
      · clear HBC
        have d1 : decide (512 < t.length) = true := by simp; omega
        have d2 : decide ((512 : Int) < (t.length : Int)) = true := by simp; omega
        clear h2
        have CP := Lib.hid (HP.out _ (HW.out.keep BB_9.out))
        try simp only [qV] at CP
        go_wp2_with fail
        (with_reducible refine (CP.out).mono ?_)
        clear CP
        rintro e wp1 ⟨Ap1, cp1, rfl, hqp, hbp⟩
        have HQP := Lib.hid hqp
        clear hqp
        have HX_10 := Lib.hid (HX_7.out.below hbp HX_7.out.lt)
        have HQ_11 := Lib.hid (HQ_8.out.bel hbp)
        have BB_12 := Lib.hid (bel_step BB_9.out hbp)
        clear HX_7 HQ_8 BB_9
        clear hbp
        have QN1_13 := Lib.hid (HQP.out)
        clear HQP
        try simp only [qV]
        have E_14 := bel_alloc (Below.refl wp1.heap.size wp1) (.cells (qV Qy.zero.op Qy.zero.n Qy.zero.s Ap1 Qy.zero.kids.length cp1) 25)
        have HX_14 := Lib.hid (HX_10.out.below E_14 HX_10.out.lt)
        have HQ_15 := Lib.hid (HQ_11.out.bel E_14)
        have BB_16 := Lib.hid (bel_step BB_12.out E_14)
        have QN1_17 := Lib.hid (QN1_13.out.bel E_14)
        clear HX_10 HQ_11 BB_12 QN1_13
        clear E_14
        have U1_18 := Lib.hid (Blk.new wp1 25 (qV Qy.zero.op Qy.zero.n Qy.zero.s Ap1 Qy.zero.kids.length cp1))
        have CP := Lib.hid (HLV.out _ (HW.out.keep BB_16.out))
        try simp only [qV] at CP
        go_wp2_with fail
        (with_reducible refine (CP.out).mono ?_)
        rintro e w4 ⟨rfl, hb4⟩
        have HX_19 := Lib.hid (HX_14.out.below hb4 HX_14.out.lt)
        have HQ_20 := Lib.hid (HQ_15.out.bel hb4)
        have BB_21 := Lib.hid (bel_step BB_16.out hb4)
        have QN1_22 := Lib.hid (QN1_17.out.bel hb4)
        have U1_23 := Lib.hid (U1_18.out.below hb4 U1_18.out.lt)
        clear HX_14 HQ_15 BB_16 QN1_17 U1_18
        clear CP
        go_wp2_with fail
        go_ret
        exact ⟨rfl, BB_21.out⟩
      · clear HBC
        have d1 : decide (512 < t.length) = false := by simp; omega
        have d2 : decide ((512 : Int) < (t.length : Int)) = false := by simp; omega
        clear h2
        have CP := Lib.hid (HP.out _ (HW.out.keep BB_9.out))
        try simp only [qV] at CP
        go_wp2_with fail
        (with_reducible refine (CP.out).mono ?_)
        clear CP
        rintro e wp1 ⟨Ap1, cp1, rfl, hqp, hbp⟩
        have HQP := Lib.hid hqp
        clear hqp
        have HX_10 := Lib.hid (HX_7.out.below hbp HX_7.out.lt)
        have HQ_11 := Lib.hid (HQ_8.out.bel hbp)
        have BB_12 := Lib.hid (bel_step BB_9.out hbp)
        clear HX_7 HQ_8 BB_9
        clear hbp
        have QX_13 := Lib.hid (HQP.out)
        clear HQP
        try simp only [qV]
        have E_14 := bel_alloc (Below.refl wp1.heap.size wp1) (.cells (qV X.op X.n X.s Ap1 X.kids.length cp1) 25)
        have HX_14 := Lib.hid (HX_10.out.below E_14 HX_10.out.lt)
        have HQ_15 := Lib.hid (HQ_11.out.bel E_14)
        have BB_16 := Lib.hid (bel_step BB_12.out E_14)
        have QX_17 := Lib.hid (QX_13.out.bel E_14)
        clear HX_10 HQ_11 BB_12 QX_13
        clear E_14
        have X_18 := Lib.hid (Blk.new wp1 25 (qV X.op X.n X.s Ap1 X.kids.length cp1))
        have CP := Lib.hid (HLV.out _ (HW.out.keep BB_16.out))
        try simp only [qV] at CP
        go_wp2_with fail
        (with_reducible refine (CP.out).mono ?_)
        rintro e w4 ⟨rfl, hb4⟩
        have HX_19 := Lib.hid (HX_14.out.below hb4 HX_14.out.lt)
        have HQ_20 := Lib.hid (HQ_15.out.bel hb4)
        have BB_21 := Lib.hid (bel_step BB_16.out hb4)
        have QX_22 := Lib.hid (QX_17.out.bel hb4)
        have X_23 := Lib.hid (X_18.out.below hb4 X_18.out.lt)
        clear HX_14 HQ_15 BB_16 QX_17 X_18
        clear CP
        have C2 := Lib.hid (refSame_any25 X X _ _ _ _ _ QX_22.out HQ_20.out)
        rw [HSM.out] at C2
        try simp only [qV] at C2
        obtain ⟨zx0, zx1, zx2, zx3⟩ := box_facts X_23.out
        obtain ⟨zhx0, zhx1, zhx2, zhx3⟩ := box_facts HX_19.out
        try simp only [qV] at zx0 zx1 zx2 zx3 zhx0 zhx1 zhx2 zhx3
        go_wp2_with fail
        clear zx0 zx1 zx2 zx3 zhx0 zhx1 zhx2 zhx3
        (with_reducible refine (C2.out).mono ?_)
        rintro e w5 ⟨rfl, hb5⟩
        have HX_24 := Lib.hid (HX_19.out.below hb5 HX_19.out.lt)
        have HQ_25 := Lib.hid (HQ_20.out.bel hb5)
        have BB_26 := Lib.hid (bel_step BB_21.out hb5)
        have QX_27 := Lib.hid (QX_22.out.bel hb5)
        have X_28 := Lib.hid (X_23.out.below hb5 X_23.out.lt)
        clear HX_19 HQ_20 BB_21 QX_22 X_23
        go_wp2_with fail
        go_ret
        exact ⟨rfl, BB_26.out⟩

set_option maxHeartbeats 8000000 in
theorem qparseAgain_walk (s : List UInt8) (w : World) (hs : s.length ≤ 9223372036854775807) (hW : QpW w) : Calls Tryz.prog 6 #[.string ⟨s.toArray⟩] w (RetTrue w) := by
  have hz : (ByteArray.mk s.toArray).size = s.length := size_of s
  have HW := Lib.hid hW
  have HL := Lib.hid (fun W h => lives26_any W h)
  have HP := Lib.hid (fun W h => parse_pq s hs W h)
  have HOK : Hid ((parD s).2.2 = 0 → okQ (parD s).1 = true) := Lib.hid par_ok
  have HNO : Hid ((parD s).2.2 ≠ 0 → (parD s).1 = .zero) := Lib.hid par_no
  generalize (parD s).1 = X at *
  generalize (parD s).2.1 = n at *
  generalize (parD s).2.2 = g at *
  have BB_0 := Lib.hid (Below.refl w.heap.size w)
  clear hW
  by_cases h2 : 2000 < s.length
  · have d1 : decide (2000 < s.length) = true := by simp; omega
    have d2 : decide ((2000 : Int) < (s.length : Int)) = true := by simp; omega
    clear h2
    go_enter Tryz.func6, Tryz.ntmps6
    have CP := Lib.hid (HL.out _ (HW.out.keep BB_0.out))
    try simp only [qV] at CP
    go_wp2_with fail
    (with_reducible refine (CP.out).mono ?_)
    rintro e w1 ⟨rfl, hb1⟩
    have BB_1 := Lib.hid (bel_step BB_0.out hb1)
    clear BB_0
    clear CP
    go_wp2_with fail
    go_ret
    exact ⟨rfl, BB_1.out⟩
  · have d1 : decide (2000 < s.length) = false := by simp; omega
    have d2 : decide ((2000 : Int) < (s.length : Int)) = false := by simp; omega
    clear h2
    by_cases hg : g = 0
    · subst hg
      have hok := HOK.out rfl
      clear HOK HNO
      obtain ⟨-, hnd, hpl⟩ := ok_parts hok
      have hsl := shown_len X hpl
      have HSM := Lib.hid (ok_same hok)
      have HBC := Lib.hid (back_cases hok)
      have HN := Lib.hid (fun vs W S h1 h2 => Show26_yes X hok (ok_ask hok) vs W S h1 h2)
      have HP2 := Lib.hid (fun W h => parse_pq (shwD X) (by omega) W h)
      generalize (parD (shwD X)).1 = Y at *
      generalize (parD (shwD X)).2.1 = n2 at *
      generalize (parD (shwD X)).2.2 = g2 at *
      generalize shwD X = t at *
      have hz2 : (ByteArray.mk t.toArray).size = t.length := size_of t
      have hl2 : t.length ≤ 20000 := by omega
      clear hok hnd hpl hsl
      go_enter Tryz.func6, Tryz.ntmps6
      have CP := Lib.hid (HP.out _ (HW.out.keep BB_0.out))
      try simp only [qV] at CP
      go_wp2_with fail
      (with_reducible refine (CP.out).mono ?_)
      clear CP
      rintro e wp1 ⟨Ap1, cp1, rfl, hqp, hbp⟩
      have HQP := Lib.hid hqp
      clear hqp
      have BB_1 := Lib.hid (bel_step BB_0.out hbp)
      clear BB_0
      clear hbp
      have QX_2 := Lib.hid (HQP.out)
      clear HQP
      try simp only [qV]
      have E_3 := bel_alloc (Below.refl wp1.heap.size wp1) (.cells (qV X.op X.n X.s Ap1 X.kids.length cp1) 25)
      have BB_3 := Lib.hid (bel_step BB_1.out E_3)
      have QX_4 := Lib.hid (QX_2.out.bel E_3)
      clear BB_1 QX_2
      clear E_3
      have X_5 := Lib.hid (Blk.new wp1 25 (qV X.op X.n X.s Ap1 X.kids.length cp1))
      have CP := Lib.hid (HL.out _ (HW.out.keep BB_3.out))
      try simp only [qV] at CP
      go_wp2_with fail
      (with_reducible refine (CP.out).mono ?_)
      rintro e w1 ⟨rfl, hb1⟩
      have BB_6 := Lib.hid (bel_step BB_3.out hb1)
      have QX_7 := Lib.hid (QX_4.out.bel hb1)
      have X_8 := Lib.hid (X_5.out.below hb1 X_5.out.lt)
      clear BB_3 QX_4 X_5
      clear CP
      have HC1 := Lib.hid (HN.out _ _ _ (HW.out.keep BB_6.out) QX_7.out)
      try simp only [qV] at HC1
      obtain ⟨zx0, zx1, zx2, zx3⟩ := box_facts X_8.out
      try simp only [qV] at zx0 zx1 zx2 zx3
      go_wp2_with fail
      clear zx0 zx1 zx2 zx3
      (with_reducible refine (HC1.out).mono ?_)
      rintro e w2 ⟨rfl, hb2⟩
      have BB_9 := Lib.hid (bel_step BB_6.out hb2)
      have QX_10 := Lib.hid (QX_7.out.bel hb2)
      have X_11 := Lib.hid (X_8.out.below hb2 X_8.out.lt)
      clear BB_6 QX_7 X_8
      rcases HBC.out with ⟨h2, rfl, rfl, rfl⟩ | ⟨h2, rfl, rfl, rfl⟩
      · clear HBC
        have d1 : decide (512 < t.length) = true := by simp; omega
        have d2 : decide ((512 : Int) < (t.length : Int)) = true := by simp; omega
        clear h2
        have CP := Lib.hid (HP2.out _ (HW.out.keep BB_9.out))
        try simp only [qV] at CP
        go_wp2_with fail
        (with_reducible refine (CP.out).mono ?_)
        clear CP
        rintro e wp2 ⟨Ap2, cp2, rfl, hqp, hbp⟩
        have HQP := Lib.hid hqp
        clear hqp
        have BB_12 := Lib.hid (bel_step BB_9.out hbp)
        have QX_13 := Lib.hid (QX_10.out.bel hbp)
        have X_14 := Lib.hid (X_11.out.below hbp X_11.out.lt)
        clear BB_9 QX_10 X_11
        clear hbp
        have QN2_15 := Lib.hid (HQP.out)
        clear HQP
        try simp only [qV]
        have E_16 := bel_alloc (Below.refl wp2.heap.size wp2) (.cells (qV Qy.zero.op Qy.zero.n Qy.zero.s Ap2 Qy.zero.kids.length cp2) 25)
        have BB_16 := Lib.hid (bel_step BB_12.out E_16)
        have QX_17 := Lib.hid (QX_13.out.bel E_16)
        have X_18 := Lib.hid (X_14.out.below E_16 X_14.out.lt)
        have QN2_19 := Lib.hid (QN2_15.out.bel E_16)
        clear BB_12 QX_13 X_14 QN2_15
        clear E_16
        have U2_20 := Lib.hid (Blk.new wp2 25 (qV Qy.zero.op Qy.zero.n Qy.zero.s Ap2 Qy.zero.kids.length cp2))
        go_wp2_with fail
        go_ret
        exact ⟨rfl, BB_16.out⟩
      · clear HBC
        have d1 : decide (512 < t.length) = false := by simp; omega
        have d2 : decide ((512 : Int) < (t.length : Int)) = false := by simp; omega
        clear h2
        have CP := Lib.hid (HP2.out _ (HW.out.keep BB_9.out))
        try simp only [qV] at CP
        go_wp2_with fail
        (with_reducible refine (CP.out).mono ?_)
        clear CP
        rintro e wp2 ⟨Ap2, cp2, rfl, hqp, hbp⟩
        have HQP := Lib.hid hqp
        clear hqp
        have BB_12 := Lib.hid (bel_step BB_9.out hbp)
        have QX_13 := Lib.hid (QX_10.out.bel hbp)
        have X_14 := Lib.hid (X_11.out.below hbp X_11.out.lt)
        clear BB_9 QX_10 X_11
        clear hbp
        have QY_15 := Lib.hid (HQP.out)
        clear HQP
        try simp only [qV]
        have E_16 := bel_alloc (Below.refl wp2.heap.size wp2) (.cells (qV Y.op Y.n Y.s Ap2 Y.kids.length cp2) 25)
        have BB_16 := Lib.hid (bel_step BB_12.out E_16)
        have QX_17 := Lib.hid (QX_13.out.bel E_16)
        have X_18 := Lib.hid (X_14.out.below E_16 X_14.out.lt)
        have QY_19 := Lib.hid (QY_15.out.bel E_16)
        clear BB_12 QX_13 X_14 QY_15
        clear E_16
        have Y_20 := Lib.hid (Blk.new wp2 25 (qV Y.op Y.n Y.s Ap2 Y.kids.length cp2))
        have C2 := Lib.hid (refSame_any25 Y Y _ _ _ _ _ QY_19.out QX_17.out)
        rw [HSM.out] at C2
        try simp only [qV] at C2
        obtain ⟨zx0, zx1, zx2, zx3⟩ := box_facts X_18.out
        obtain ⟨zy0, zy1, zy2, zy3⟩ := box_facts Y_20.out
        try simp only [qV] at zx0 zx1 zx2 zx3 zy0 zy1 zy2 zy3
        go_wp2_with fail
        clear zx0 zx1 zx2 zx3 zy0 zy1 zy2 zy3
        (with_reducible refine (C2.out).mono ?_)
        rintro e w3 ⟨rfl, hb3⟩
        have BB_21 := Lib.hid (bel_step BB_16.out hb3)
        have QX_22 := Lib.hid (QX_17.out.bel hb3)
        have X_23 := Lib.hid (X_18.out.below hb3 X_18.out.lt)
        have QY_24 := Lib.hid (QY_19.out.bel hb3)
        have Y_25 := Lib.hid (Y_20.out.below hb3 Y_20.out.lt)
        clear BB_16 QX_17 X_18 QY_19 Y_20
        go_wp2_with fail
        go_ret
        exact ⟨rfl, BB_21.out⟩
    · have dg : (g == 0) = false := by simpa using hg
      obtain rfl := HNO.out hg
      clear HOK HNO hg
      go_enter Tryz.func6, Tryz.ntmps6
      have CP := Lib.hid (HP.out _ (HW.out.keep BB_0.out))
      try simp only [qV] at CP
      go_wp2_with fail
      (with_reducible refine (CP.out).mono ?_)
      clear CP
      rintro e wp1 ⟨Ap1, cp1, rfl, hqp, hbp⟩
      have HQP := Lib.hid hqp
      clear hqp
      have BB_1 := Lib.hid (bel_step BB_0.out hbp)
      clear BB_0
      clear hbp
      have QX_2 := Lib.hid (HQP.out)
      clear HQP
      try simp only [qV]
      have E_3 := bel_alloc (Below.refl wp1.heap.size wp1) (.cells (qV Qy.zero.op Qy.zero.n Qy.zero.s Ap1 Qy.zero.kids.length cp1) 25)
      have BB_3 := Lib.hid (bel_step BB_1.out E_3)
      have QX_4 := Lib.hid (QX_2.out.bel E_3)
      clear BB_1 QX_2
      clear E_3
      have X_5 := Lib.hid (Blk.new wp1 25 (qV Qy.zero.op Qy.zero.n Qy.zero.s Ap1 Qy.zero.kids.length cp1))
      have CP := Lib.hid (HL.out _ (HW.out.keep BB_3.out))
      try simp only [qV] at CP
      go_wp2_with fail
      (with_reducible refine (CP.out).mono ?_)
      rintro e w1 ⟨rfl, hb1⟩
      have BB_6 := Lib.hid (bel_step BB_3.out hb1)
      have QX_7 := Lib.hid (QX_4.out.bel hb1)
      have X_8 := Lib.hid (X_5.out.below hb1 X_5.out.lt)
      clear BB_3 QX_4 X_5
      clear CP
      have C2 := Lib.hid (refSame_any25 Qy.zero Qy.zero _ _ _ _ (fun _ => True) QX_7.out zero_at26)
      rw [zero_same26] at C2
      try simp only [qV] at C2
      obtain ⟨zx0, zx1, zx2, zx3⟩ := box_facts X_8.out
      try simp only [qV] at zx0 zx1 zx2 zx3
      go_wp2_with fail
      clear zx0 zx1 zx2 zx3
      (with_reducible refine (C2.out).mono ?_)
      rintro e w2 ⟨rfl, hb2⟩
      have BB_9 := Lib.hid (bel_step BB_6.out hb2)
      have QX_10 := Lib.hid (QX_7.out.bel hb2)
      have X_11 := Lib.hid (X_8.out.below hb2 X_8.out.lt)
      clear BB_6 QX_7 X_8
      go_wp2_with fail
      go_ret
      exact ⟨rfl, BB_9.out⟩

theorem qparseReads_any (s : ByteArray) (w : World) (hs : s.size ≤ 9223372036854775807) (hW : QpW w) : Calls Tryz.prog 3 #[.string s] w (RetTrue w) := by
  have h_ := qparseReads_walk (bl s) w (by rw [bl_len]; exact hs) hW
  rw [bl_mk] at h_
  exact h_
theorem qparseAgain_any (s : ByteArray) (w : World) (hs : s.size ≤ 9223372036854775807) (hW : QpW w) : Calls Tryz.prog 6 #[.string s] w (RetTrue w) := by
  have h_ := qparseAgain_walk (bl s) w (by rw [bl_len]; exact hs) hW
  rw [bl_mk] at h_
  exact h_
end Go.Proofs.YtjjlmkleidbmhaaGreatDoor
end
section
namespace Go.Proofs.YtjjlmkleidbmhaaGreatDoor
open Go.ChangeShapes Go.WideShapes Go.ChangeAt Go.RowKit Go.Nst
set_option maxRecDepth 100000

theorem own : ownKnob Tryz.prog.godebug = none := by kernel_rfl
theorem laidOut : laidOutB Tryz.prog = true := by kernel_rfl

theorem bytes_lt {H : Type} {enc : TypeId × Value → H} {W : World} {v : Value} {d : DataW H} {p : List MemPlace} {t : TypeId} (h0 : DataW.Trod enc Tryz.prog W 0 (fun _ => true) true t v d p) : ∀ x ∈ p, x.block < W.heap.size := by
  obtain ⟨m, hm⟩ := h0
  exact DataW.trod_lt m _ _ _ hm
end Go.Proofs.YtjjlmkleidbmhaaGreatDoor
end
section
namespace Go.Proofs.YtjjlmkleidbmhaaGreatDoor
open Go.ChangeShapes Go.WideShapes Go.ChangeAt Go.RowKit Go.Nst Go.Deep
set_option maxRecDepth 100000
set_option linter.unusedVariables false

theorem laid_rest26 {P : Program} {W : World} {x : String × DataW Unit} {l : List (String × DataW Unit)} (h : laidMet P (x :: l) W) : laidMet P l W := by
  obtain ⟨ps, ⟨g, t, cs, fuel, p, q, h1, h2, h3, h4, h5, rfl⟩, hnd, hall⟩ := h
  exact ⟨q, h5, (List.nodup_append.1 hnd).2.1, fun b off hm => hall b off (List.mem_append.2 (.inr hm))⟩
theorem ifc_of26 {P : Program} {W : World} {name nm : String} {d : DataW Unit} {l : List (String × DataW Unit)} {g : Nat} {ti : TypeId} {ms : Array (String × TypeId)} (h : laidMet P ((name, .iface nm d) :: l) W) (hg : P.globalNamed name = some g) (ht : (P.globals[g]?).map (·.type) = some ti) (hi : P.underlying ti = some (.interface ms)) : ∃ te pe, W.cell? ⟨g, 0, none⟩ = some (.iface te pe) := by
  obtain ⟨ps, ⟨g', t, cs, fuel, p, q, h1, h2, h3, h4, h5, rfl⟩, hnd, hall⟩ := h
  obtain rfl := Option.some.inj (hg.symm.trans h1)
  obtain rfl := Option.some.inj (ht.symm.trans h2)
  obtain ⟨f1, u, v, e, -, -⟩ := iface_of_trod hi h4
  obtain ⟨l0⟩ := cs
  have e' : l0 = [.iface u v] := e
  subst e'
  exact ⟨u, v, by simpa using World.var?_cell h1 h3 0⟩
theorem qpw_of {W : World} {x1 x2 : String × DataW Unit} {rest : List (String × DataW Unit)} {n1 n2 : String} {d1 d2 : DataW Unit} (h : laidMet Tryz.prog (x1 :: x2 :: ("internal/strconv.uint64pow10", Lib.tabData .u64 Lib.pow10Tab) :: ("strconv.ErrRange", .iface n1 d1) :: ("strconv.ErrSyntax", .iface n2 d2) :: rest) W) (hs : W.ShapedOpen Tryz.prog) : QpW W := by
  have h3 := laid_rest26 (laid_rest26 h)
  refine ⟨cell_of_shapedOpen_int (zero := #[.int .i64 0]) (t := 3) hs (of_decide_eq_true (by kernel_rfl)) (by kernel_rfl) rfl (by kernel_rfl) (by kernel_rfl) Tryz.underlying3, ?_, ?_, ?_⟩
  · exact Lib.tabIs_of_head (g := 1) (by kernel_rfl) (show (Tryz.prog.globals[1]?).map (·.type) = some 134 by kernel_rfl) Tryz.underlying134 Tryz.underlying119 (by kernel_rfl) (by kernel_rfl) h3
  · exact ifc_of26 (laid_rest26 (laid_rest26 h3)) (by kernel_rfl) (show (Tryz.prog.globals[4]?).map (·.type) = some 75 by kernel_rfl) Tryz.underlying75
  · exact ifc_of26 (laid_rest26 h3) (by kernel_rfl) (show (Tryz.prog.globals[5]?).map (·.type) = some 75 by kernel_rfl) Tryz.underlying75
end Go.Proofs.YtjjlmkleidbmhaaGreatDoor
end
