/-
  What must come of every program (trial).
-/
import Derived.Test.YtjnhhdkphcbflaaQtO
namespace Go.Proofs.Ytjnhhdkphcbflaa
open Go.RowKit Go.Nst
set_option maxRecDepth 100000
set_option linter.unusedVariables false
set_option linter.unusedSimpArgs false
theorem res_facts4 {w : World} {g : Nat} {v0 v1 v2 v3 : Value} (h : Blk w g 24 #[v0, v1, v2, v3]) : w.cell? ⟨g, 0, none⟩ = some v0 ∧ w.cell? ⟨g, 1, none⟩ = some v1 ∧ w.cell? ⟨g, 2, none⟩ = some v2 ∧ w.cell? ⟨g, 3, none⟩ = some v3 := ⟨h.cell 0, h.cell 1, h.cell 2, h.cell 3⟩
def nodV (q : Qy) : Int := if 64 < depQ q 1 then 65 else (nodQ q : Int)
theorem Nodes25_any (q : Qy) (hn : depQ q 1 ≤ 64 → nodK q) (vs : Array Value) (w : World) (S : Nat → Prop) (hq : QAt w S vs q) : Calls Try.prog 13 #[.agg vs] w fun e w' => e = .returned (.int .i64 (nodV q)) ∧ Below w.heap.size w w' := by
  have B0 := bel_alloc (Below.refl w.heap.size w) (.cells vs 24)
  have HX := Lib.hid (Blk.new w 24 vs)
  have HQ := Lib.hid (hq.bel B0)
  have HD := Lib.hid (Depth25_any q vs _ _ trivial HQ.out)
  have HN := Lib.hid (fun (h : nodK q) W S hW => nodes25_any q vs W S h hW)
  have HV : Hid (nodV q = if 64 < depQ q 1 then 65 else (nodQ q : Int)) := Lib.hid rfl
  have HH := Lib.hid hn
  obtain ⟨A, c, rfl, -, -, -, -, -, -⟩ := hq.open_
  clear hq hn
  simp only [qV] at *
  generalize depQ q 1 = d at *
  by_cases h : 64 < d
  · have hd : decide (64 < (d : Int)) = true := by simp; omega
    have HV2 : Hid (nodV q = 65) := Lib.hid (by rw [HV.out, if_pos h])
    go_enter Try.func13, Try.ntmps13
    go_wp2_with fail
    (with_reducible refine (HD.out).mono ?_)
    rintro e w1 ⟨rfl, hb1⟩
    go_wp2_with fail
    go_ret
    exact ⟨by rw [HV2.out]; rfl, bel_step B0 hb1⟩
  · have hd : decide (64 < (d : Int)) = false := by simp; omega
    have HV2 : Hid (nodV q = (nodQ q : Int)) := Lib.hid (by rw [HV.out, if_neg h])
    have HNK := Lib.hid (HH.out (by omega))
    go_enter Try.func13, Try.ntmps13
    go_wp2_with fail
    (with_reducible refine (HD.out).mono ?_)
    rintro e w1 ⟨rfl, hb1⟩
    obtain ⟨x0, x1, x2, x3⟩ := box_facts (HX.out.below hb1 HX.out.lt)
    have HC := Lib.hid (HN.out HNK.out _ _ (HQ.out.bel hb1))
    go_wp2_with fail
    (with_reducible refine (HC.out).mono ?_)
    rintro e w2 ⟨rfl, hb2⟩
    go_wp2_with fail
    go_ret
    exact ⟨by rw [HV2.out]; rfl, bel_step (bel_step B0 hb1) hb2⟩
theorem refNodes_any25 (q : Qy) (hn : depQ q 1 ≤ 64 → nodK q) (vs : Array Value) (w : World) (S : Nat → Prop) (hq : QAt w S vs q) : Calls Try.prog 14 #[.agg vs] w fun e w' => e = .returned (.int .i64 (nodV q)) ∧ Below w.heap.size w w' := by
  have B0 := bel_alloc (Below.refl w.heap.size w) (.cells vs 24)
  have HX := Lib.hid (Blk.new w 24 vs)
  have HQ := Lib.hid (hq.bel B0)
  have HD := Lib.hid (refDepth_any25 q vs _ _ trivial HQ.out)
  have HN := Lib.hid (fun (h : nodK q) W S hW => refNodes25_any q vs W S h hW)
  have HV : Hid (nodV q = if 64 < depQ q 1 then 65 else (nodQ q : Int)) := Lib.hid rfl
  have HH := Lib.hid hn
  obtain ⟨A, c, rfl, -, -, -, -, -, -⟩ := hq.open_
  clear hq hn
  simp only [qV] at *
  generalize depQ q 1 = d at *
  by_cases h : 64 < d
  · have hd : decide (64 < (d : Int)) = true := by simp; omega
    have HV2 : Hid (nodV q = 65) := Lib.hid (by rw [HV.out, if_pos h])
    go_enter Try.func14, Try.ntmps14
    go_wp2_with fail
    (with_reducible refine (HD.out).mono ?_)
    rintro e w1 ⟨rfl, hb1⟩
    go_wp2_with fail
    go_ret
    exact ⟨by rw [HV2.out]; rfl, bel_step B0 hb1⟩
  · have hd : decide (64 < (d : Int)) = false := by simp; omega
    have HV2 : Hid (nodV q = (nodQ q : Int)) := Lib.hid (by rw [HV.out, if_neg h])
    have HNK := Lib.hid (HH.out (by omega))
    go_enter Try.func14, Try.ntmps14
    go_wp2_with fail
    (with_reducible refine (HD.out).mono ?_)
    rintro e w1 ⟨rfl, hb1⟩
    obtain ⟨x0, x1, x2, x3⟩ := box_facts (HX.out.below hb1 HX.out.lt)
    have HC := Lib.hid (HN.out HNK.out _ _ (HQ.out.bel hb1))
    go_wp2_with fail
    (with_reducible refine (HC.out).mono ?_)
    rintro e w2 ⟨rfl, hb2⟩
    go_wp2_with fail
    go_ret
    exact ⟨by rw [HV2.out]; rfl, bel_step (bel_step B0 hb1) hb2⟩
/-- a literal of several queries -/
theorem lit_qs {w : World} (V : Nat → Array Value) (n : Nat) (cs : Array Value) (l : List Qy) (hcs : cs.toList = rowC V n) (hl : l.length = n) (hq : ∀ (i : Nat) (q : Qy), l[i]? = some q → QAt w (fun _ => True) (V i) q) {g : Nat} (hg : w.heap.size = g) : QsAt (w.alloc (.cells cs 24)) (fun _ => True) (some ⟨g, 0, none⟩) n l := by
  subst hg
  have h4 : ∀ i, i < n → (V i).size = 4 := fun i hi => (hq i _ (List.getElem?_eq_getElem (show i < l.length by omega))).size4
  refine ⟨hl, V, fun _ => ⟨_, _, rfl, trivial, by simp, fun i j u hi hu => ?_⟩, fun i q hi => (hq i q hi).bel (bel_alloc (Below.refl _ _) _)⟩
  have hj : j < 4 := by
    rcases Nat.lt_or_ge j 4 with h | h
    · exact h
    · rw [Array.getElem?_eq_none (by rw [h4 i hi]; exact h)] at hu; cases hu
  rw [show 0 + i * 4 + j = i * 4 + j by omega, (Blk.new w 24 cs).cell, ← Array.getElem?_toList, hcs, rowC_get V n h4 i j hi hj]
  exact hu
def qa : Qy := ⟨9, 0, [], []⟩
def qb : Qy := ⟨8, 0, [103, 111], []⟩
def qand : Qy := ⟨3, 0, [], [qa, qb]⟩
def qor3 : Qy := ⟨4, 0, [], [qa, notQ qa, qb]⟩
def qand3 : Qy := ⟨3, 0, [], [qand, qa, leafO 1]⟩
def qor2 : Qy := ⟨4, 0, [], [notQ qa, notQ qb]⟩
def qnot : Qy := ⟨5, 0, [], []⟩
theorem ok1 : okQ (notQ qand) = true := by decide +kernel
theorem ok2 : okQ qor3 = true := by decide +kernel
theorem ok3 : okQ qand3 = true := by decide +kernel
theorem ok4 : okQ qnot = false := by decide +kernel
theorem ok5 : okQ qand = true := by decide +kernel
theorem nf1 : normQ (notQ qand) false = qor2 := by rfl
theorem nf2 : normQ qor3 false = leafO 1 := by rfl
theorem nf3 : normQ qand3 false = qand := by rfl
theorem sm1 : samQ qor2 qor2 1 = true := by decide +kernel
theorem sm2 : samQ (leafO 1) (leafO 1) 1 = true := by decide +kernel
theorem sm3 : samQ qand qand 1 = true := by decide +kernel
theorem sm4 : samQ qor2 qand 1 = false := by decide +kernel
theorem no5 : nodV qand = 3 := by decide +kernel
theorem de5 : depQ qand 1 = 2 := by decide +kernel
theorem sml_leaf {o : Int} {s : List UInt8} (h : s.length ≤ 20000) : Sml ⟨o, 0, s, []⟩ := .mk h (by simp)
theorem sml_mk {o : Int} {l : List Qy} (h : ∀ k ∈ l, Sml k) : Sml ⟨o, 0, [], l⟩ := .mk (by simp) h
theorem sml_and : Sml qand := sml_mk (fun k hk => by
  simp only [List.mem_cons, List.not_mem_nil, or_false] at hk
  rcases hk with rfl | rfl
  · exact sml_leaf (by simp)
  · exact sml_leaf (by simp))
theorem ask1 : Ask (notQ qand) := fun _ => ⟨by decide +kernel, sml_mk (fun k hk => by
  simp only [List.mem_cons, List.not_mem_nil, or_false] at hk
  subst hk
  exact sml_and)⟩
theorem ask2 : Ask qor3 := fun _ => ⟨by decide +kernel, sml_mk (fun k hk => by
  simp only [List.mem_cons, List.not_mem_nil, or_false] at hk
  rcases hk with rfl | rfl | rfl
  · exact sml_leaf (by simp)
  · exact sml_mk (fun k hk => by simp only [List.mem_cons, List.not_mem_nil, or_false] at hk; subst hk; exact sml_leaf (by simp))
  · exact sml_leaf (by simp))⟩
theorem ask3 : Ask qand3 := fun _ => ⟨by decide +kernel, sml_mk (fun k hk => by
  simp only [List.mem_cons, List.not_mem_nil, or_false] at hk
  rcases hk with rfl | rfl | rfl
  · exact sml_and
  · exact sml_leaf (by simp)
  · exact sml_leaf (by simp))⟩
theorem ask4 : Ask qnot := fun _ => ⟨by decide +kernel, sml_leaf (by simp)⟩
theorem ask5 : Ask qand := fun _ => ⟨by decide +kernel, sml_and⟩
theorem bel_alloc2 {B : Nat} {w : World} (hB : B ≤ w.heap.size) (o o' : Obj) : Below B (w.alloc o) (w.alloc o') :=
  ⟨rfl, rfl, rfl, by simp, fun i hi => (Below.heap_alloc w o' i (by omega)).trans (Below.heap_alloc w o i (by omega)).symm⟩
theorem leaf_any {w : World} {S : Nat → Prop} {X : Qy} {A : Option Addr} {c : Nat} {o : Int} (hX : X = leafO o) (hc : X.kids.length ≤ c ∧ c ≤ 9223372036854775807) (ho : i64P o := by exact i64P_lit (by omega)) : QAt w S (qV X.op X.n X.s A X.kids.length c) X := by
  subst hX
  exact QAt.make (s := []) ho (show i64P 0 from i64P_lit (by omega)) (by simp) hc (QsAt.nil' A)
theorem z_op : Qy.zero.op = 0 := rfl
theorem z_n : Qy.zero.n = 0 := rfl
theorem z_s : Qy.zero.s.toArray = #[] := rfl
theorem z_kids : Qy.zero.kids = [] := rfl
def aV : Array Value := #[.int .i64 9, .int .i64 0, .string ⟨#[]⟩, .slice none 0 0]
def bV : Array Value := #[.int .i64 8, .int .i64 0, .string ⟨#[103, 111]⟩, .slice none 0 0]
theorem a_at {w : World} : QAt w (fun _ => True) aV qa := QAt.leaf (s := []) (i64P_lit (by omega)) (i64P_lit (by omega)) (by simp)
theorem b_at {w : World} : QAt w (fun _ => True) bV qb := QAt.leaf (s := [103, 111]) (i64P_lit (by omega)) (i64P_lit (by omega)) (by simp)
set_option maxHeartbeats 16000000 in
set_option maxHeartbeats 16000000 in
set_option maxHeartbeats 16000000 in
theorem lives25_any (w : World) : Calls Try.prog 8 #[] w (RetTrue w) := by
  have HE1 : Hid (errV true = .int .i64 0) := Lib.hid rfl
  have HE2 : Hid (errV false = .int .i64 250) := Lib.hid rfl
  have B4 := bel_alloc (bel_alloc (bel_alloc (bel_alloc (Below.refl w.heap.size w) (.cells (#[.int .i64 9, .int .i64 0, .string ⟨#[]⟩, .slice none 0 0]) 24)) (.cells (#[.int .i64 8, .int .i64 0, .string ⟨#[103, 111]⟩, .slice none 0 0]) 24)) (.cells (#[.int .i64 9, .int .i64 0, .string ⟨#[]⟩, .slice none 0 0, .int .i64 8, .int .i64 0, .string ⟨#[103, 111]⟩, .slice none 0 0]) 24)) (.cells (#[.int .i64 3, .int .i64 0, .string ⟨#[]⟩, .slice (some ⟨w.heap.size + 1 + 1, 0, none⟩) 2 2]) 24)
  have BB_0 := Lib.hid B4
  have HA_0 := Lib.hid ((((Blk.new w 24 (#[.int .i64 9, .int .i64 0, .string ⟨#[]⟩, .slice none 0 0])).alloc (.cells (#[.int .i64 8, .int .i64 0, .string ⟨#[103, 111]⟩, .slice none 0 0]) 24)).alloc (.cells (#[.int .i64 9, .int .i64 0, .string ⟨#[]⟩, .slice none 0 0, .int .i64 8, .int .i64 0, .string ⟨#[103, 111]⟩, .slice none 0 0]) 24)).alloc (.cells (#[.int .i64 3, .int .i64 0, .string ⟨#[]⟩, .slice (some ⟨w.heap.size + 1 + 1, 0, none⟩) 2 2]) 24))
  have hb' := ((Blk.new (w.alloc (.cells (#[.int .i64 9, .int .i64 0, .string ⟨#[]⟩, .slice none 0 0]) 24)) 24 (#[.int .i64 8, .int .i64 0, .string ⟨#[103, 111]⟩, .slice none 0 0])).alloc (.cells (#[.int .i64 9, .int .i64 0, .string ⟨#[]⟩, .slice none 0 0, .int .i64 8, .int .i64 0, .string ⟨#[103, 111]⟩, .slice none 0 0]) 24)).alloc (.cells (#[.int .i64 3, .int .i64 0, .string ⟨#[]⟩, .slice (some ⟨w.heap.size + 1 + 1, 0, none⟩) 2 2]) 24)
  rw [show (w.alloc (.cells (#[.int .i64 9, .int .i64 0, .string ⟨#[]⟩, .slice none 0 0]) 24)).heap.size = w.heap.size + 1 by simp] at hb'
  have HB_0 := Lib.hid hb'
  have hn' := Blk.new (((w.alloc (.cells (#[.int .i64 9, .int .i64 0, .string ⟨#[]⟩, .slice none 0 0]) 24)).alloc (.cells (#[.int .i64 8, .int .i64 0, .string ⟨#[103, 111]⟩, .slice none 0 0]) 24)).alloc (.cells (#[.int .i64 9, .int .i64 0, .string ⟨#[]⟩, .slice none 0 0, .int .i64 8, .int .i64 0, .string ⟨#[103, 111]⟩, .slice none 0 0]) 24)) 24 (#[.int .i64 3, .int .i64 0, .string ⟨#[]⟩, .slice (some ⟨w.heap.size + 1 + 1, 0, none⟩) 2 2])
  rw [show (((w.alloc (.cells (#[.int .i64 9, .int .i64 0, .string ⟨#[]⟩, .slice none 0 0]) 24)).alloc (.cells (#[.int .i64 8, .int .i64 0, .string ⟨#[103, 111]⟩, .slice none 0 0]) 24)).alloc (.cells (#[.int .i64 9, .int .i64 0, .string ⟨#[]⟩, .slice none 0 0, .int .i64 8, .int .i64 0, .string ⟨#[103, 111]⟩, .slice none 0 0]) 24)).heap.size = w.heap.size + 1 + 1 + 1 by simp] at hn'
  have HN_0 := Lib.hid hn'
  have hz' : QAt ((((w.alloc (.cells (#[.int .i64 9, .int .i64 0, .string ⟨#[]⟩, .slice none 0 0]) 24)).alloc (.cells (#[.int .i64 8, .int .i64 0, .string ⟨#[103, 111]⟩, .slice none 0 0]) 24)).alloc (.cells (#[.int .i64 9, .int .i64 0, .string ⟨#[]⟩, .slice none 0 0, .int .i64 8, .int .i64 0, .string ⟨#[103, 111]⟩, .slice none 0 0]) 24)).alloc (.cells (#[.int .i64 3, .int .i64 0, .string ⟨#[]⟩, .slice (some ⟨w.heap.size + 1 + 1, 0, none⟩) 2 2]) 24)) (fun _ => True) (#[.int .i64 3, .int .i64 0, .string ⟨#[]⟩, .slice (some ⟨w.heap.size + 1 + 1, 0, none⟩) 2 2]) qand := QAt.make (s := []) (i64P_lit (by omega)) (i64P_lit (by omega)) (by simp) ⟨Nat.le_refl _, by omega⟩ ((lit_qs (w := ((w.alloc (.cells (#[.int .i64 9, .int .i64 0, .string ⟨#[]⟩, .slice none 0 0]) 24)).alloc (.cells (#[.int .i64 8, .int .i64 0, .string ⟨#[103, 111]⟩, .slice none 0 0]) 24))) (fun i => if i = 0 then aV else bV) 2 (#[.int .i64 9, .int .i64 0, .string ⟨#[]⟩, .slice none 0 0, .int .i64 8, .int .i64 0, .string ⟨#[103, 111]⟩, .slice none 0 0]) [qa, qb] rfl rfl (fun i q hi => by
    match i, hi with
    | 0, hi => simp only [List.getElem?_cons_zero, Option.some.injEq] at hi; subst hi; exact a_at
    | 1, hi => simp only [List.getElem?_cons_succ, List.getElem?_cons_zero, Option.some.injEq] at hi; subst hi; exact b_at) (by simp)).bel (bel_alloc (Below.refl _ _) _))
  have ZN_0 := Lib.hid hz'
  clear B4 hb' hn' hz'
  have HNT := Lib.hid (fun W vs S hW => Not25_any qand vs W S hW)
  have HN1 := Lib.hid (fun W vs S hW => Norm25_yes (notQ qand) ask1 ok1 vs W S hW)
  have HN2 := Lib.hid (fun W vs S hW => Norm25_yes qor3 ask2 ok2 vs W S hW)
  have HN3 := Lib.hid (fun W vs S hW => Norm25_yes qand3 ask3 ok3 vs W S hW)
  have HN4 := Lib.hid (fun W vs S hW => Norm25_no qnot ask4 ok4 vs W S hW)
  rw [nf1] at HN1
  rw [nf2] at HN2
  rw [nf3] at HN3
  have HS1 := Lib.hid sm1
  have HS2 := Lib.hid sm2
  have HS3 := Lib.hid sm3
  have HS4 := Lib.hid sm4
  obtain ⟨X1, hX1⟩ : ∃ X1, X1 = qor2 := ⟨_, rfl⟩
  obtain ⟨X2, hX2⟩ : ∃ X2, X2 = leafO 1 := ⟨_, rfl⟩
  obtain ⟨X3, hX3⟩ : ∃ X3, X3 = qand := ⟨_, rfl⟩
  have H1 : Hid (samQ X1 qor2 1 = true) := Lib.hid (by rw [hX1]; exact sm1)
  have H4 : Hid (samQ X1 qand 1 = false) := Lib.hid (by rw [hX1]; exact sm4)
  have H2 : Hid (samQ X2 (leafO 1) 1 = true) := Lib.hid (by rw [hX2]; exact sm2)
  have H3 : Hid (samQ X3 qand 1 = true) := Lib.hid (by rw [hX3]; exact sm3)
  rw [← hX1] at HN1
  rw [← hX2] at HN2
  rw [← hX3] at HN3
  have HL2 := Lib.hid hX2
  clear hX1 hX2 hX3 HS1 HS2 HS3 HS4
  go_enter Try.func8, Try.ntmps8
  go_wp2_with fail
  have C1 := Lib.hid (HNT.out _ _ _ ZN_0.out)
  try simp only [qV] at C1
  (with_reducible refine (C1.out).mono ?_)
  rintro e wt1 ⟨vt1, rfl, hqt, hbt1⟩
  have HT := Lib.hid hqt
  obtain ⟨At1, ct1, rfl, -, -, -, -, -, -⟩ := hqt.open_
  clear hqt
  have HA_1 := Lib.hid (HA_0.out.below hbt1 HA_0.out.lt)
  have HB_2 := Lib.hid (HB_0.out.below hbt1 HB_0.out.lt)
  have HN_3 := Lib.hid (HN_0.out.below hbt1 HN_0.out.lt)
  have ZN_4 := Lib.hid (ZN_0.out.bel hbt1)
  have BB_5 := Lib.hid (bel_step BB_0.out hbt1)
  clear HA_0 HB_0 HN_0 ZN_0 BB_0
  have T1_6 := HT
  clear HT
  try simp only [qV]
  have C2 := Lib.hid (HN1.out _ _ _ T1_6.out)
  try simp only [qV] at C2
  go_wp2_with fail
  (with_reducible refine (C2.out).mono ?_)
  rintro e wn1 ⟨vn, rfl, hqn, hbn1⟩
  have HZ := Lib.hid hqn
  obtain ⟨Az1, cz1, rfl, -, -, -, -, -, -⟩ := hqn.open_
  clear hqn
  have HA_7 := Lib.hid (HA_1.out.below hbn1 HA_1.out.lt)
  have HB_8 := Lib.hid (HB_2.out.below hbn1 HB_2.out.lt)
  have HN_9 := Lib.hid (HN_3.out.below hbn1 HN_3.out.lt)
  have ZN_10 := Lib.hid (ZN_4.out.bel hbn1)
  have BB_11 := Lib.hid (bel_step BB_5.out hbn1)
  have T1_12 := Lib.hid (T1_6.out.bel hbn1)
  clear HA_1 HB_2 HN_3 ZN_4 BB_5 T1_6
  have Z1_13 := HZ
  clear HZ
  try simp only [qV]
  rw [HE1.out]
  have E_14 := bel_alloc (Below.refl wn1.heap.size wn1) (.cells (qV X1.op X1.n X1.s Az1 X1.kids.length cz1) 24)
  have HA_14 := Lib.hid (HA_7.out.below E_14 HA_7.out.lt)
  have HB_15 := Lib.hid (HB_8.out.below E_14 HB_8.out.lt)
  have HN_16 := Lib.hid (HN_9.out.below E_14 HN_9.out.lt)
  have ZN_17 := Lib.hid (ZN_10.out.bel E_14)
  have BB_18 := Lib.hid (bel_step BB_11.out E_14)
  have T1_19 := Lib.hid (T1_12.out.bel E_14)
  have Z1_20 := Lib.hid (Z1_13.out.bel E_14)
  clear HA_7 HB_8 HN_9 ZN_10 BB_11 T1_12 Z1_13
  clear E_14
  have HX_21 := Lib.hid (Blk.new wn1 24 (qV X1.op X1.n X1.s Az1 X1.kids.length cz1))
  try simp only [qV]
  go_upto_region 5 with fail
  obtain ⟨w4, hw4⟩ : ∃ w4 : World, w4 = (wn1.alloc (.cells (qV X1.op X1.n X1.s Az1 X1.kids.length cz1) 24)) := ⟨_, rfl⟩
  rw [← hw4] at HA_14
  rw [← hw4] at HB_15
  rw [← hw4] at HN_16
  rw [← hw4] at ZN_17
  rw [← hw4] at BB_18
  rw [← hw4] at T1_19
  rw [← hw4] at Z1_20
  rw [← hw4] at HX_21
  simp only [qV] at hw4
  rw [← hw4]
  clear hw4
  go_cut [6, 7] (fun v6 v7 wx => ∃ g A2 c2, v6 = .pointer (some ⟨g, 0, none⟩) ∧ v7 = .int .i64 0 ∧ Hid (Blk wx g 24 (qV X2.op X2.n X2.s A2 X2.kids.length c2)) ∧ Hid (QAt wx (fun _ => True) (qV X2.op X2.n X2.s A2 X2.kids.length c2) X2) ∧ Below w4.heap.size w4 wx)
  case first =>
    go_wp2_with fail
    have lA := HA_14.out.lt
    have lB := HB_15.out.lt
    refine wp_region_ord w4.heap.size (by kernel_rfl) (.take 0 (.take 1 (.take 3 (.two 2 (.two 4 (.take 5 (.two 6 (.take 7 (.take 8 (.take 9 (.exec 10 (.exec 11 (.take 12 (.nil))))))) 10 (.exec 6 (.take 7 (.take 8 (.take 9 (.exec 11 (.take 12 (.nil))))))))) 10 (.exec 4 (.take 5 (.exec 6 (.take 7 (.take 8 (.take 9 (.exec 11 (.take 12 (.nil)))))))))) 10 (.exec 2 (.exec 4 (.take 5 (.exec 6 (.take 7 (.take 8 (.take 9 (.exec 11 (.take 12 (.nil)))))))))))))) (by kernel_rfl) (by kernel_rfl) (by kernel_rfl) ?_
    intro w0 hb0 hz0
    clear hz0
    have HA_22 := Lib.hid (HA_14.out.below hb0 HA_14.out.lt)
    have HB_23 := Lib.hid (HB_15.out.below hb0 HB_15.out.lt)
    have HN_24 := Lib.hid (HN_16.out.below hb0 HN_16.out.lt)
    have ZN_25 := Lib.hid (ZN_17.out.bel hb0)
    have BB_26 := Lib.hid (bel_step BB_18.out hb0)
    have T1_27 := Lib.hid (T1_19.out.bel hb0)
    have Z1_28 := Lib.hid (Z1_20.out.bel hb0)
    have HX_29 := Lib.hid (HX_21.out.below hb0 HX_21.out.lt)
    clear HA_14 HB_15 HN_16 ZN_17 BB_18 T1_19 Z1_20 HX_21
    obtain ⟨zha0, zha1, zha2, zha3⟩ := box_facts HA_22.out
    obtain ⟨zhb0, zhb1, zhb2, zhb3⟩ := box_facts HB_23.out
    try simp only [qV] at zha0 zha1 zha2 zha3 zhb0 zhb1 zhb2 zhb3
    have Lzha0 := laterB (B := w4.heap.size) zha0 (by first | exact lA | exact lB)
    have Lzha1 := laterB (B := w4.heap.size) zha1 (by first | exact lA | exact lB)
    have Lzha2 := laterB (B := w4.heap.size) zha2 (by first | exact lA | exact lB)
    have Lzha3 := laterB (B := w4.heap.size) zha3 (by first | exact lA | exact lB)
    have Lzhb0 := laterB (B := w4.heap.size) zhb0 (by first | exact lA | exact lB)
    have Lzhb1 := laterB (B := w4.heap.size) zhb1 (by first | exact lA | exact lB)
    have Lzhb2 := laterB (B := w4.heap.size) zhb2 (by first | exact lA | exact lB)
    have Lzhb3 := laterB (B := w4.heap.size) zhb3 (by first | exact lA | exact lB)
    clear zha0 zha1 zha2 zha3 zhb0 zhb1 zhb2 zhb3
    iterate 3 (refine wpOrd_take (o := ⟨_, _, _, _, _, _⟩) (v := ?_) rfl rfl ?_ ?_; rotate_left; (focus (intro W hW; go_simp; first | done | with_reducible rfl)); simp only [Act.put, List.setIfInBounds_toArray, List.set_cons_zero, List.set_cons_succ])
    clear Lzha0 Lzha1 Lzha2 Lzha3 Lzhb0 Lzhb1 Lzhb2 Lzhb3
    have BQ_0 := Lib.hid hb0
    clear hb0
    refine wpOrd_two ?_ ?_
    · have CN := Lib.hid (Not25_any qa aV w0 _ a_at)
      simp only [aV] at CN
      refine wpOrd_exec (o := ⟨_, _, _, _, _, _⟩) rfl rfl (fun K hK => ?_)
      go_simp
      (with_reducible refine (CN.out).mono ?_)
      rintro e wa ⟨va, rfl, hqa, hba⟩
      have TA_0 := Lib.hid hqa
      obtain ⟨Aa, ca, rfl, -, -, -, -, -, -⟩ := hqa.open_
      clear hqa CN
      simp only [qV]
      go_wp2_with fail
      refine hK _ _ (hba.mono BQ_0.out.size) ?_
      clear hK K
      have HA_30 := Lib.hid (HA_22.out.below hba HA_22.out.lt)
      have HB_31 := Lib.hid (HB_23.out.below hba HB_23.out.lt)
      have HN_32 := Lib.hid (HN_24.out.below hba HN_24.out.lt)
      have ZN_33 := Lib.hid (ZN_25.out.bel hba)
      have BB_34 := Lib.hid (bel_step BB_26.out hba)
      have T1_35 := Lib.hid (T1_27.out.bel hba)
      have Z1_36 := Lib.hid (Z1_28.out.bel hba)
      have HX_37 := Lib.hid (HX_29.out.below hba HX_29.out.lt)
      have BQ_38 := Lib.hid (BQ_0.out.trans (hba.mono BQ_0.out.size))
      clear HA_22 HB_23 HN_24 ZN_25 BB_26 T1_27 Z1_28 HX_29 BQ_0
      refine wpOrd_two ?_ ?_
      · refine wpOrd_exec (o := ⟨_, _, _, _, _, _⟩) rfl rfl (fun K hK => ?_)
        go_simp
        refine hK _ _ ((Below.refl _ _).alloc BQ_38.out.size _) ?_
        clear hK K
        have QL_0 := Lib.hid (show QAt (wa.alloc (.cells (#[.int .i64 9, .int .i64 0, .string ⟨#[]⟩, .slice none 0 0, .int .i64 (notQ qa).op, .int .i64 (notQ qa).n, .string ⟨(notQ qa).s.toArray⟩, .slice Aa (notQ qa).kids.length ca, .int .i64 8, .int .i64 0, .string ⟨#[103, 111]⟩, .slice none 0 0]) 24)) (fun _ => True) (qV 4 0 [] (some ⟨wa.heap.size, 0, none⟩) 3 3) qor3 from QAt.make (s := []) (i64P_lit (by omega)) (i64P_lit (by omega)) (by simp) ⟨Nat.le_refl _, by omega⟩ (lit_qs (w := wa) (fun i => if i = 0 then aV else if i = 1 then qV (notQ qa).op (notQ qa).n (notQ qa).s Aa (notQ qa).kids.length ca else bV) 3 (#[.int .i64 9, .int .i64 0, .string ⟨#[]⟩, .slice none 0 0, .int .i64 (notQ qa).op, .int .i64 (notQ qa).n, .string ⟨(notQ qa).s.toArray⟩, .slice Aa (notQ qa).kids.length ca, .int .i64 8, .int .i64 0, .string ⟨#[103, 111]⟩, .slice none 0 0]) [qa, notQ qa, qb] rfl rfl (fun i q hi => by
          match i, hi with
          | 0, hi => simp only [List.getElem?_cons_zero, Option.some.injEq] at hi; subst hi; exact a_at
          | 1, hi => simp only [List.getElem?_cons_succ, List.getElem?_cons_zero, Option.some.injEq] at hi; subst hi; exact TA_0.out.wide (fun _ _ _ => trivial)
          | 2, hi => simp only [List.getElem?_cons_succ, List.getElem?_cons_zero, Option.some.injEq] at hi; subst hi; exact b_at) (by simp)))
        have EL := bel_alloc (Below.refl wa.heap.size wa) (.cells (#[.int .i64 9, .int .i64 0, .string ⟨#[]⟩, .slice none 0 0, .int .i64 (notQ qa).op, .int .i64 (notQ qa).n, .string ⟨(notQ qa).s.toArray⟩, .slice Aa (notQ qa).kids.length ca, .int .i64 8, .int .i64 0, .string ⟨#[103, 111]⟩, .slice none 0 0]) 24)
        have HA_39 := Lib.hid (HA_30.out.below EL HA_30.out.lt)
        have HB_40 := Lib.hid (HB_31.out.below EL HB_31.out.lt)
        have HN_41 := Lib.hid (HN_32.out.below EL HN_32.out.lt)
        have ZN_42 := Lib.hid (ZN_33.out.bel EL)
        have BB_43 := Lib.hid (bel_step BB_34.out EL)
        have T1_44 := Lib.hid (T1_35.out.bel EL)
        have Z1_45 := Lib.hid (Z1_36.out.bel EL)
        have HX_46 := Lib.hid (HX_37.out.below EL HX_37.out.lt)
        have BQ_47 := Lib.hid (BQ_38.out.trans (EL.mono BQ_38.out.size))
        have TA_48 := Lib.hid (TA_0.out.bel EL)
        clear HA_30 HB_31 HN_32 ZN_33 BB_34 T1_35 Z1_36 HX_37 BQ_38 TA_0
        clear EL
        iterate 1 (refine wpOrd_take (o := ⟨_, _, _, _, _, _⟩) (v := ?_) rfl rfl ?_ ?_; rotate_left; (focus (intro W hW; go_simp; first | done | with_reducible rfl)); simp only [Act.put, List.setIfInBounds_toArray, List.set_cons_zero, List.set_cons_succ])
        refine wpOrd_two ?_ ?_
        · have CM := Lib.hid (HN2.out _ _ _ QL_0.out)
          simp only [qV] at CM
          refine wpOrd_exec (o := ⟨_, _, _, _, _, _⟩) rfl rfl (fun K hK => ?_)
          go_simp
          (with_reducible refine (CM.out).mono ?_)
          rintro e wm ⟨vm, rfl, hqm, hbm⟩
          have ZM_0 := Lib.hid hqm
          obtain ⟨Am, cm, rfl, -, -, -, hm1, hm2, -⟩ := hqm.open_
          clear hqm CM
          rw [HE1.out]
          simp only [qV]
          go_wp2_with fail
          refine hK _ _ (hbm.mono BQ_47.out.size) ?_
          clear hK K
          have HA_49 := Lib.hid (HA_39.out.below hbm HA_39.out.lt)
          have HB_50 := Lib.hid (HB_40.out.below hbm HB_40.out.lt)
          have HN_51 := Lib.hid (HN_41.out.below hbm HN_41.out.lt)
          have ZN_52 := Lib.hid (ZN_42.out.bel hbm)
          have BB_53 := Lib.hid (bel_step BB_43.out hbm)
          have T1_54 := Lib.hid (T1_44.out.bel hbm)
          have Z1_55 := Lib.hid (Z1_45.out.bel hbm)
          have HX_56 := Lib.hid (HX_46.out.below hbm HX_46.out.lt)
          have BQ_57 := Lib.hid (BQ_47.out.trans (hbm.mono BQ_47.out.size))
          have TA_58 := Lib.hid (TA_48.out.bel hbm)
          have QL_59 := Lib.hid (QL_0.out.bel hbm)
          clear HA_39 HB_40 HN_41 ZN_42 BB_43 T1_44 Z1_45 HX_46 BQ_47 TA_48 QL_0
          iterate 3 (refine wpOrd_take (o := ⟨_, _, _, _, _, _⟩) (v := ?_) rfl rfl ?_ ?_; rotate_left; (focus (intro W hW; go_simp; first | done | with_reducible rfl)); simp only [Act.put, List.setIfInBounds_toArray, List.set_cons_zero, List.set_cons_succ])
          refine wpOrd_exec (o := ⟨_, _, _, _, _, _⟩) rfl rfl (fun K hK => ?_)
          go_simp
          refine hK _ _ ((Below.refl _ _).alloc BQ_57.out.size _) ?_
          clear hK K
          have hg := Blk.new wm 24 #[.int .i64 0, .int .i64 0, .string ⟨#[]⟩, .slice none 0 0]
          have hgl := BQ_57.out.size
          have HG_0 := Lib.hid hg
          clear hg
          have EG := bel_alloc (Below.refl wm.heap.size wm) (.cells (#[.int .i64 0, .int .i64 0, .string ⟨#[]⟩, .slice none 0 0]) 24)
          have HA_60 := Lib.hid (HA_49.out.below EG HA_49.out.lt)
          have HB_61 := Lib.hid (HB_50.out.below EG HB_50.out.lt)
          have HN_62 := Lib.hid (HN_51.out.below EG HN_51.out.lt)
          have ZN_63 := Lib.hid (ZN_52.out.bel EG)
          have BB_64 := Lib.hid (bel_step BB_53.out EG)
          have T1_65 := Lib.hid (T1_54.out.bel EG)
          have Z1_66 := Lib.hid (Z1_55.out.bel EG)
          have HX_67 := Lib.hid (HX_56.out.below EG HX_56.out.lt)
          have BQ_68 := Lib.hid (BQ_57.out.trans (EG.mono BQ_57.out.size))
          have TA_69 := Lib.hid (TA_58.out.bel EG)
          have QL_70 := Lib.hid (QL_59.out.bel EG)
          have ZM_71 := Lib.hid (ZM_0.out.bel EG)
          clear HA_49 HB_50 HN_51 ZN_52 BB_53 T1_54 Z1_55 HX_56 BQ_57 TA_58 QL_59 ZM_0
          clear EG
          obtain ⟨r0, r1, r2, r3, r4, r5⟩ := res_facts HG_0.out
          refine wpOrd_exec (o := ⟨_, _, _, _, _, _⟩) rfl rfl (fun K hK => ?_)
          go_simp
          refine hK _ _ (bel_alloc2 hgl _ _) ?_
          clear hK K
          iterate 1 (refine wpOrd_take (o := ⟨_, _, _, _, _, _⟩) (v := ?_) rfl rfl ?_ ?_; rotate_left; (focus (intro W hW; go_simp; first | done | with_reducible rfl)); simp only [Act.put, List.setIfInBounds_toArray, List.set_cons_zero, List.set_cons_succ])
          refine wpOrd_nil ?_
          go_wp2_with fail
          go_meet
          exact ⟨_, Am, cm, rfl, rfl, Lib.hid (Blk.new wm _ _), Lib.hid (leaf_any HL2.out ⟨hm1, hm2⟩), BQ_68.out.trans (bel_alloc2 hgl _ _)⟩
        · refine wpOrd_exec (o := ⟨_, _, _, _, _, _⟩) rfl rfl (fun K hK => ?_)
          go_simp
          refine hK _ _ ((Below.refl _ _).alloc BQ_47.out.size _) ?_
          clear hK K
          have hg := Blk.new (wa.alloc (.cells (#[.int .i64 9, .int .i64 0, .string ⟨#[]⟩, .slice none 0 0, .int .i64 (notQ qa).op, .int .i64 (notQ qa).n, .string ⟨(notQ qa).s.toArray⟩, .slice Aa (notQ qa).kids.length ca, .int .i64 8, .int .i64 0, .string ⟨#[103, 111]⟩, .slice none 0 0]) 24)) 24 #[.int .i64 0, .int .i64 0, .string ⟨#[]⟩, .slice none 0 0]
          rw [show (wa.alloc (.cells (#[.int .i64 9, .int .i64 0, .string ⟨#[]⟩, .slice none 0 0, .int .i64 (notQ qa).op, .int .i64 (notQ qa).n, .string ⟨(notQ qa).s.toArray⟩, .slice Aa (notQ qa).kids.length ca, .int .i64 8, .int .i64 0, .string ⟨#[103, 111]⟩, .slice none 0 0]) 24)).heap.size = wa.heap.size + 1 by simp] at hg
          have hgl := BQ_47.out.size
          have HG_0 := Lib.hid hg
          clear hg
          have EG := bel_alloc (Below.refl (wa.alloc (.cells (#[.int .i64 9, .int .i64 0, .string ⟨#[]⟩, .slice none 0 0, .int .i64 (notQ qa).op, .int .i64 (notQ qa).n, .string ⟨(notQ qa).s.toArray⟩, .slice Aa (notQ qa).kids.length ca, .int .i64 8, .int .i64 0, .string ⟨#[103, 111]⟩, .slice none 0 0]) 24)).heap.size (wa.alloc (.cells (#[.int .i64 9, .int .i64 0, .string ⟨#[]⟩, .slice none 0 0, .int .i64 (notQ qa).op, .int .i64 (notQ qa).n, .string ⟨(notQ qa).s.toArray⟩, .slice Aa (notQ qa).kids.length ca, .int .i64 8, .int .i64 0, .string ⟨#[103, 111]⟩, .slice none 0 0]) 24))) (.cells (#[.int .i64 0, .int .i64 0, .string ⟨#[]⟩, .slice none 0 0]) 24)
          have HA_49 := Lib.hid (HA_39.out.below EG HA_39.out.lt)
          have HB_50 := Lib.hid (HB_40.out.below EG HB_40.out.lt)
          have HN_51 := Lib.hid (HN_41.out.below EG HN_41.out.lt)
          have ZN_52 := Lib.hid (ZN_42.out.bel EG)
          have BB_53 := Lib.hid (bel_step BB_43.out EG)
          have T1_54 := Lib.hid (T1_44.out.bel EG)
          have Z1_55 := Lib.hid (Z1_45.out.bel EG)
          have HX_56 := Lib.hid (HX_46.out.below EG HX_46.out.lt)
          have BQ_57 := Lib.hid (BQ_47.out.trans (EG.mono BQ_47.out.size))
          have TA_58 := Lib.hid (TA_48.out.bel EG)
          have QL_59 := Lib.hid (QL_0.out.bel EG)
          clear HA_39 HB_40 HN_41 ZN_42 BB_43 T1_44 Z1_45 HX_46 BQ_47 TA_48 QL_0
          clear EG
          have CM := Lib.hid (HN2.out _ _ _ QL_59.out)
          simp only [qV] at CM
          refine wpOrd_exec (o := ⟨_, _, _, _, _, _⟩) rfl rfl (fun K hK => ?_)
          go_simp
          (with_reducible refine (CM.out).mono ?_)
          rintro e wm ⟨vm, rfl, hqm, hbm⟩
          have ZM_0 := Lib.hid hqm
          obtain ⟨Am, cm, rfl, -, -, -, hm1, hm2, -⟩ := hqm.open_
          clear hqm CM
          rw [HE1.out]
          simp only [qV]
          go_wp2_with fail
          refine hK _ _ (hbm.mono BQ_57.out.size) ?_
          clear hK K
          have HA_60 := Lib.hid (HA_49.out.below hbm HA_49.out.lt)
          have HB_61 := Lib.hid (HB_50.out.below hbm HB_50.out.lt)
          have HN_62 := Lib.hid (HN_51.out.below hbm HN_51.out.lt)
          have ZN_63 := Lib.hid (ZN_52.out.bel hbm)
          have BB_64 := Lib.hid (bel_step BB_53.out hbm)
          have T1_65 := Lib.hid (T1_54.out.bel hbm)
          have Z1_66 := Lib.hid (Z1_55.out.bel hbm)
          have HX_67 := Lib.hid (HX_56.out.below hbm HX_56.out.lt)
          have BQ_68 := Lib.hid (BQ_57.out.trans (hbm.mono BQ_57.out.size))
          have TA_69 := Lib.hid (TA_58.out.bel hbm)
          have QL_70 := Lib.hid (QL_59.out.bel hbm)
          have HG_71 := Lib.hid (HG_0.out.below hbm HG_0.out.lt)
          clear HA_49 HB_50 HN_51 ZN_52 BB_53 T1_54 Z1_55 HX_56 BQ_57 TA_58 QL_59 HG_0
          iterate 3 (refine wpOrd_take (o := ⟨_, _, _, _, _, _⟩) (v := ?_) rfl rfl ?_ ?_; rotate_left; (focus (intro W hW; go_simp; first | done | with_reducible rfl)); simp only [Act.put, List.setIfInBounds_toArray, List.set_cons_zero, List.set_cons_succ])
          obtain ⟨r0, r1, r2, r3, r4, r5⟩ := res_facts HG_71.out
          have hz := Lib.hid (set4 HG_71.out (.int .i64 X2.op) (.int .i64 X2.n) (.string ⟨X2.s.toArray⟩) (.slice Am X2.kids.length cm))
          refine wpOrd_exec (o := ⟨_, _, _, _, _, _⟩) rfl rfl (fun K hK => ?_)
          go_simp
          refine hK _ _ (bel4 (Below.refl _ _) (by first | exact hgl | (simp at hgl; omega)) _ _ _ _) ?_
          clear hK K
          iterate 1 (refine wpOrd_take (o := ⟨_, _, _, _, _, _⟩) (v := ?_) rfl rfl ?_ ?_; rotate_left; (focus (intro W hW; go_simp; first | done | with_reducible rfl)); simp only [Act.put, List.setIfInBounds_toArray, List.set_cons_zero, List.set_cons_succ])
          refine wpOrd_nil ?_
          go_wp2_with fail
          go_meet
          exact ⟨_, Am, cm, rfl, rfl, hz, Lib.hid (leaf_any HL2.out ⟨hm1, hm2⟩), bel4 BQ_68.out (by first | exact hgl | (simp at hgl; omega)) _ _ _ _⟩
      · refine wpOrd_exec (o := ⟨_, _, _, _, _, _⟩) rfl rfl (fun K hK => ?_)
        go_simp
        refine hK _ _ ((Below.refl _ _).alloc BQ_38.out.size _) ?_
        clear hK K
        have hg := Blk.new wa 24 #[.int .i64 0, .int .i64 0, .string ⟨#[]⟩, .slice none 0 0]
        have hgl := BQ_38.out.size
        have HG_0 := Lib.hid hg
        clear hg
        have EG := bel_alloc (Below.refl wa.heap.size wa) (.cells (#[.int .i64 0, .int .i64 0, .string ⟨#[]⟩, .slice none 0 0]) 24)
        have HA_39 := Lib.hid (HA_30.out.below EG HA_30.out.lt)
        have HB_40 := Lib.hid (HB_31.out.below EG HB_31.out.lt)
        have HN_41 := Lib.hid (HN_32.out.below EG HN_32.out.lt)
        have ZN_42 := Lib.hid (ZN_33.out.bel EG)
        have BB_43 := Lib.hid (bel_step BB_34.out EG)
        have T1_44 := Lib.hid (T1_35.out.bel EG)
        have Z1_45 := Lib.hid (Z1_36.out.bel EG)
        have HX_46 := Lib.hid (HX_37.out.below EG HX_37.out.lt)
        have BQ_47 := Lib.hid (BQ_38.out.trans (EG.mono BQ_38.out.size))
        have TA_48 := Lib.hid (TA_0.out.bel EG)
        clear HA_30 HB_31 HN_32 ZN_33 BB_34 T1_35 Z1_36 HX_37 BQ_38 TA_0
        clear EG
        refine wpOrd_exec (o := ⟨_, _, _, _, _, _⟩) rfl rfl (fun K hK => ?_)
        go_simp
        refine hK _ _ ((Below.refl _ _).alloc BQ_47.out.size _) ?_
        clear hK K
        have QL_0 := Lib.hid (show QAt ((wa.alloc (.cells (#[.int .i64 0, .int .i64 0, .string ⟨#[]⟩, .slice none 0 0]) 24)).alloc (.cells (#[.int .i64 9, .int .i64 0, .string ⟨#[]⟩, .slice none 0 0, .int .i64 (notQ qa).op, .int .i64 (notQ qa).n, .string ⟨(notQ qa).s.toArray⟩, .slice Aa (notQ qa).kids.length ca, .int .i64 8, .int .i64 0, .string ⟨#[103, 111]⟩, .slice none 0 0]) 24)) (fun _ => True) (qV 4 0 [] (some ⟨wa.heap.size + 1, 0, none⟩) 3 3) qor3 from QAt.make (s := []) (i64P_lit (by omega)) (i64P_lit (by omega)) (by simp) ⟨Nat.le_refl _, by omega⟩ (lit_qs (w := (wa.alloc (.cells (#[.int .i64 0, .int .i64 0, .string ⟨#[]⟩, .slice none 0 0]) 24))) (fun i => if i = 0 then aV else if i = 1 then qV (notQ qa).op (notQ qa).n (notQ qa).s Aa (notQ qa).kids.length ca else bV) 3 (#[.int .i64 9, .int .i64 0, .string ⟨#[]⟩, .slice none 0 0, .int .i64 (notQ qa).op, .int .i64 (notQ qa).n, .string ⟨(notQ qa).s.toArray⟩, .slice Aa (notQ qa).kids.length ca, .int .i64 8, .int .i64 0, .string ⟨#[103, 111]⟩, .slice none 0 0]) [qa, notQ qa, qb] rfl rfl (fun i q hi => by
          match i, hi with
          | 0, hi => simp only [List.getElem?_cons_zero, Option.some.injEq] at hi; subst hi; exact a_at
          | 1, hi => simp only [List.getElem?_cons_succ, List.getElem?_cons_zero, Option.some.injEq] at hi; subst hi; exact TA_48.out.wide (fun _ _ _ => trivial)
          | 2, hi => simp only [List.getElem?_cons_succ, List.getElem?_cons_zero, Option.some.injEq] at hi; subst hi; exact b_at) (by simp)))
        have EL := bel_alloc (Below.refl (wa.alloc (.cells (#[.int .i64 0, .int .i64 0, .string ⟨#[]⟩, .slice none 0 0]) 24)).heap.size (wa.alloc (.cells (#[.int .i64 0, .int .i64 0, .string ⟨#[]⟩, .slice none 0 0]) 24))) (.cells (#[.int .i64 9, .int .i64 0, .string ⟨#[]⟩, .slice none 0 0, .int .i64 (notQ qa).op, .int .i64 (notQ qa).n, .string ⟨(notQ qa).s.toArray⟩, .slice Aa (notQ qa).kids.length ca, .int .i64 8, .int .i64 0, .string ⟨#[103, 111]⟩, .slice none 0 0]) 24)
        have HA_49 := Lib.hid (HA_39.out.below EL HA_39.out.lt)
        have HB_50 := Lib.hid (HB_40.out.below EL HB_40.out.lt)
        have HN_51 := Lib.hid (HN_41.out.below EL HN_41.out.lt)
        have ZN_52 := Lib.hid (ZN_42.out.bel EL)
        have BB_53 := Lib.hid (bel_step BB_43.out EL)
        have T1_54 := Lib.hid (T1_44.out.bel EL)
        have Z1_55 := Lib.hid (Z1_45.out.bel EL)
        have HX_56 := Lib.hid (HX_46.out.below EL HX_46.out.lt)
        have BQ_57 := Lib.hid (BQ_47.out.trans (EL.mono BQ_47.out.size))
        have TA_58 := Lib.hid (TA_48.out.bel EL)
        have HG_59 := Lib.hid (HG_0.out.below EL HG_0.out.lt)
        clear HA_39 HB_40 HN_41 ZN_42 BB_43 T1_44 Z1_45 HX_46 BQ_47 TA_48 HG_0
        clear EL
        iterate 1 (refine wpOrd_take (o := ⟨_, _, _, _, _, _⟩) (v := ?_) rfl rfl ?_ ?_; rotate_left; (focus (intro W hW; go_simp; first | done | with_reducible rfl)); simp only [Act.put, List.setIfInBounds_toArray, List.set_cons_zero, List.set_cons_succ])
        have CM := Lib.hid (HN2.out _ _ _ QL_0.out)
        simp only [qV] at CM
        refine wpOrd_exec (o := ⟨_, _, _, _, _, _⟩) rfl rfl (fun K hK => ?_)
        go_simp
        (with_reducible refine (CM.out).mono ?_)
        rintro e wm ⟨vm, rfl, hqm, hbm⟩
        have ZM_0 := Lib.hid hqm
        obtain ⟨Am, cm, rfl, -, -, -, hm1, hm2, -⟩ := hqm.open_
        clear hqm CM
        rw [HE1.out]
        simp only [qV]
        go_wp2_with fail
        refine hK _ _ (hbm.mono BQ_57.out.size) ?_
        clear hK K
        have HA_60 := Lib.hid (HA_49.out.below hbm HA_49.out.lt)
        have HB_61 := Lib.hid (HB_50.out.below hbm HB_50.out.lt)
        have HN_62 := Lib.hid (HN_51.out.below hbm HN_51.out.lt)
        have ZN_63 := Lib.hid (ZN_52.out.bel hbm)
        have BB_64 := Lib.hid (bel_step BB_53.out hbm)
        have T1_65 := Lib.hid (T1_54.out.bel hbm)
        have Z1_66 := Lib.hid (Z1_55.out.bel hbm)
        have HX_67 := Lib.hid (HX_56.out.below hbm HX_56.out.lt)
        have BQ_68 := Lib.hid (BQ_57.out.trans (hbm.mono BQ_57.out.size))
        have TA_69 := Lib.hid (TA_58.out.bel hbm)
        have HG_70 := Lib.hid (HG_59.out.below hbm HG_59.out.lt)
        have QL_71 := Lib.hid (QL_0.out.bel hbm)
        clear HA_49 HB_50 HN_51 ZN_52 BB_53 T1_54 Z1_55 HX_56 BQ_57 TA_58 HG_59 QL_0
        iterate 3 (refine wpOrd_take (o := ⟨_, _, _, _, _, _⟩) (v := ?_) rfl rfl ?_ ?_; rotate_left; (focus (intro W hW; go_simp; first | done | with_reducible rfl)); simp only [Act.put, List.setIfInBounds_toArray, List.set_cons_zero, List.set_cons_succ])
        obtain ⟨r0, r1, r2, r3, r4, r5⟩ := res_facts HG_70.out
        have hz := Lib.hid (set4 HG_70.out (.int .i64 X2.op) (.int .i64 X2.n) (.string ⟨X2.s.toArray⟩) (.slice Am X2.kids.length cm))
        refine wpOrd_exec (o := ⟨_, _, _, _, _, _⟩) rfl rfl (fun K hK => ?_)
        go_simp
        refine hK _ _ (bel4 (Below.refl _ _) (by first | exact hgl | (simp at hgl; omega)) _ _ _ _) ?_
        clear hK K
        iterate 1 (refine wpOrd_take (o := ⟨_, _, _, _, _, _⟩) (v := ?_) rfl rfl ?_ ?_; rotate_left; (focus (intro W hW; go_simp; first | done | with_reducible rfl)); simp only [Act.put, List.setIfInBounds_toArray, List.set_cons_zero, List.set_cons_succ])
        refine wpOrd_nil ?_
        go_wp2_with fail
        go_meet
        exact ⟨_, Am, cm, rfl, rfl, hz, Lib.hid (leaf_any HL2.out ⟨hm1, hm2⟩), bel4 BQ_68.out (by first | exact hgl | (simp at hgl; omega)) _ _ _ _⟩
    · refine wpOrd_exec (o := ⟨_, _, _, _, _, _⟩) rfl rfl (fun K hK => ?_)
      go_simp
      refine hK _ _ ((Below.refl _ _).alloc BQ_0.out.size _) ?_
      clear hK K
      have hg := Blk.new w0 24 #[.int .i64 0, .int .i64 0, .string ⟨#[]⟩, .slice none 0 0]
      have hgl := BQ_0.out.size
      have HG_0 := Lib.hid hg
      clear hg
      have EG := bel_alloc (Below.refl w0.heap.size w0) (.cells (#[.int .i64 0, .int .i64 0, .string ⟨#[]⟩, .slice none 0 0]) 24)
      have HA_30 := Lib.hid (HA_22.out.below EG HA_22.out.lt)
      have HB_31 := Lib.hid (HB_23.out.below EG HB_23.out.lt)
      have HN_32 := Lib.hid (HN_24.out.below EG HN_24.out.lt)
      have ZN_33 := Lib.hid (ZN_25.out.bel EG)
      have BB_34 := Lib.hid (bel_step BB_26.out EG)
      have T1_35 := Lib.hid (T1_27.out.bel EG)
      have Z1_36 := Lib.hid (Z1_28.out.bel EG)
      have HX_37 := Lib.hid (HX_29.out.below EG HX_29.out.lt)
      have BQ_38 := Lib.hid (BQ_0.out.trans (EG.mono BQ_0.out.size))
      clear HA_22 HB_23 HN_24 ZN_25 BB_26 T1_27 Z1_28 HX_29 BQ_0
      clear EG
      have CN := Lib.hid (Not25_any qa aV (w0.alloc (.cells (#[.int .i64 0, .int .i64 0, .string ⟨#[]⟩, .slice none 0 0]) 24)) _ a_at)
      simp only [aV] at CN
      refine wpOrd_exec (o := ⟨_, _, _, _, _, _⟩) rfl rfl (fun K hK => ?_)
      go_simp
      (with_reducible refine (CN.out).mono ?_)
      rintro e wa ⟨va, rfl, hqa, hba⟩
      have TA_0 := Lib.hid hqa
      obtain ⟨Aa, ca, rfl, -, -, -, -, -, -⟩ := hqa.open_
      clear hqa CN
      simp only [qV]
      go_wp2_with fail
      refine hK _ _ (hba.mono BQ_38.out.size) ?_
      clear hK K
      have HA_39 := Lib.hid (HA_30.out.below hba HA_30.out.lt)
      have HB_40 := Lib.hid (HB_31.out.below hba HB_31.out.lt)
      have HN_41 := Lib.hid (HN_32.out.below hba HN_32.out.lt)
      have ZN_42 := Lib.hid (ZN_33.out.bel hba)
      have BB_43 := Lib.hid (bel_step BB_34.out hba)
      have T1_44 := Lib.hid (T1_35.out.bel hba)
      have Z1_45 := Lib.hid (Z1_36.out.bel hba)
      have HX_46 := Lib.hid (HX_37.out.below hba HX_37.out.lt)
      have BQ_47 := Lib.hid (BQ_38.out.trans (hba.mono BQ_38.out.size))
      have HG_48 := Lib.hid (HG_0.out.below hba HG_0.out.lt)
      clear HA_30 HB_31 HN_32 ZN_33 BB_34 T1_35 Z1_36 HX_37 BQ_38 HG_0
      refine wpOrd_exec (o := ⟨_, _, _, _, _, _⟩) rfl rfl (fun K hK => ?_)
      go_simp
      refine hK _ _ ((Below.refl _ _).alloc BQ_47.out.size _) ?_
      clear hK K
      have QL_0 := Lib.hid (show QAt (wa.alloc (.cells (#[.int .i64 9, .int .i64 0, .string ⟨#[]⟩, .slice none 0 0, .int .i64 (notQ qa).op, .int .i64 (notQ qa).n, .string ⟨(notQ qa).s.toArray⟩, .slice Aa (notQ qa).kids.length ca, .int .i64 8, .int .i64 0, .string ⟨#[103, 111]⟩, .slice none 0 0]) 24)) (fun _ => True) (qV 4 0 [] (some ⟨wa.heap.size, 0, none⟩) 3 3) qor3 from QAt.make (s := []) (i64P_lit (by omega)) (i64P_lit (by omega)) (by simp) ⟨Nat.le_refl _, by omega⟩ (lit_qs (w := wa) (fun i => if i = 0 then aV else if i = 1 then qV (notQ qa).op (notQ qa).n (notQ qa).s Aa (notQ qa).kids.length ca else bV) 3 (#[.int .i64 9, .int .i64 0, .string ⟨#[]⟩, .slice none 0 0, .int .i64 (notQ qa).op, .int .i64 (notQ qa).n, .string ⟨(notQ qa).s.toArray⟩, .slice Aa (notQ qa).kids.length ca, .int .i64 8, .int .i64 0, .string ⟨#[103, 111]⟩, .slice none 0 0]) [qa, notQ qa, qb] rfl rfl (fun i q hi => by
        match i, hi with
        | 0, hi => simp only [List.getElem?_cons_zero, Option.some.injEq] at hi; subst hi; exact a_at
        | 1, hi => simp only [List.getElem?_cons_succ, List.getElem?_cons_zero, Option.some.injEq] at hi; subst hi; exact TA_0.out.wide (fun _ _ _ => trivial)
        | 2, hi => simp only [List.getElem?_cons_succ, List.getElem?_cons_zero, Option.some.injEq] at hi; subst hi; exact b_at) (by simp)))
      have EL := bel_alloc (Below.refl wa.heap.size wa) (.cells (#[.int .i64 9, .int .i64 0, .string ⟨#[]⟩, .slice none 0 0, .int .i64 (notQ qa).op, .int .i64 (notQ qa).n, .string ⟨(notQ qa).s.toArray⟩, .slice Aa (notQ qa).kids.length ca, .int .i64 8, .int .i64 0, .string ⟨#[103, 111]⟩, .slice none 0 0]) 24)
      have HA_49 := Lib.hid (HA_39.out.below EL HA_39.out.lt)
      have HB_50 := Lib.hid (HB_40.out.below EL HB_40.out.lt)
      have HN_51 := Lib.hid (HN_41.out.below EL HN_41.out.lt)
      have ZN_52 := Lib.hid (ZN_42.out.bel EL)
      have BB_53 := Lib.hid (bel_step BB_43.out EL)
      have T1_54 := Lib.hid (T1_44.out.bel EL)
      have Z1_55 := Lib.hid (Z1_45.out.bel EL)
      have HX_56 := Lib.hid (HX_46.out.below EL HX_46.out.lt)
      have BQ_57 := Lib.hid (BQ_47.out.trans (EL.mono BQ_47.out.size))
      have HG_58 := Lib.hid (HG_48.out.below EL HG_48.out.lt)
      have TA_59 := Lib.hid (TA_0.out.bel EL)
      clear HA_39 HB_40 HN_41 ZN_42 BB_43 T1_44 Z1_45 HX_46 BQ_47 HG_48 TA_0
      clear EL
      iterate 1 (refine wpOrd_take (o := ⟨_, _, _, _, _, _⟩) (v := ?_) rfl rfl ?_ ?_; rotate_left; (focus (intro W hW; go_simp; first | done | with_reducible rfl)); simp only [Act.put, List.setIfInBounds_toArray, List.set_cons_zero, List.set_cons_succ])
      have CM := Lib.hid (HN2.out _ _ _ QL_0.out)
      simp only [qV] at CM
      refine wpOrd_exec (o := ⟨_, _, _, _, _, _⟩) rfl rfl (fun K hK => ?_)
      go_simp
      (with_reducible refine (CM.out).mono ?_)
      rintro e wm ⟨vm, rfl, hqm, hbm⟩
      have ZM_0 := Lib.hid hqm
      obtain ⟨Am, cm, rfl, -, -, -, hm1, hm2, -⟩ := hqm.open_
      clear hqm CM
      rw [HE1.out]
      simp only [qV]
      go_wp2_with fail
      refine hK _ _ (hbm.mono BQ_57.out.size) ?_
      clear hK K
      have HA_60 := Lib.hid (HA_49.out.below hbm HA_49.out.lt)
      have HB_61 := Lib.hid (HB_50.out.below hbm HB_50.out.lt)
      have HN_62 := Lib.hid (HN_51.out.below hbm HN_51.out.lt)
      have ZN_63 := Lib.hid (ZN_52.out.bel hbm)
      have BB_64 := Lib.hid (bel_step BB_53.out hbm)
      have T1_65 := Lib.hid (T1_54.out.bel hbm)
      have Z1_66 := Lib.hid (Z1_55.out.bel hbm)
      have HX_67 := Lib.hid (HX_56.out.below hbm HX_56.out.lt)
      have BQ_68 := Lib.hid (BQ_57.out.trans (hbm.mono BQ_57.out.size))
      have HG_69 := Lib.hid (HG_58.out.below hbm HG_58.out.lt)
      have TA_70 := Lib.hid (TA_59.out.bel hbm)
      have QL_71 := Lib.hid (QL_0.out.bel hbm)
      clear HA_49 HB_50 HN_51 ZN_52 BB_53 T1_54 Z1_55 HX_56 BQ_57 HG_58 TA_59 QL_0
      iterate 3 (refine wpOrd_take (o := ⟨_, _, _, _, _, _⟩) (v := ?_) rfl rfl ?_ ?_; rotate_left; (focus (intro W hW; go_simp; first | done | with_reducible rfl)); simp only [Act.put, List.setIfInBounds_toArray, List.set_cons_zero, List.set_cons_succ])
      obtain ⟨r0, r1, r2, r3, r4, r5⟩ := res_facts HG_69.out
      have hz := Lib.hid (set4 HG_69.out (.int .i64 X2.op) (.int .i64 X2.n) (.string ⟨X2.s.toArray⟩) (.slice Am X2.kids.length cm))
      refine wpOrd_exec (o := ⟨_, _, _, _, _, _⟩) rfl rfl (fun K hK => ?_)
      go_simp
      refine hK _ _ (bel4 (Below.refl _ _) (by first | exact hgl | (simp at hgl; omega)) _ _ _ _) ?_
      clear hK K
      iterate 1 (refine wpOrd_take (o := ⟨_, _, _, _, _, _⟩) (v := ?_) rfl rfl ?_ ?_; rotate_left; (focus (intro W hW; go_simp; first | done | with_reducible rfl)); simp only [Act.put, List.setIfInBounds_toArray, List.set_cons_zero, List.set_cons_succ])
      refine wpOrd_nil ?_
      go_wp2_with fail
      go_meet
      exact ⟨_, Am, cm, rfl, rfl, hz, Lib.hid (leaf_any HL2.out ⟨hm1, hm2⟩), bel4 BQ_68.out (by first | exact hgl | (simp at hgl; omega)) _ _ _ _⟩
  case rest =>
    obtain ⟨g2, A2, c2, rfl, rfl, hyb, hyq, hbc⟩ := hcut
    have HA_22 := Lib.hid (HA_14.out.below hbc HA_14.out.lt)
    have HB_23 := Lib.hid (HB_15.out.below hbc HB_15.out.lt)
    have HN_24 := Lib.hid (HN_16.out.below hbc HN_16.out.lt)
    have ZN_25 := Lib.hid (ZN_17.out.bel hbc)
    have BB_26 := Lib.hid (bel_step BB_18.out hbc)
    have T1_27 := Lib.hid (T1_19.out.bel hbc)
    have Z1_28 := Lib.hid (Z1_20.out.bel hbc)
    have HX_29 := Lib.hid (HX_21.out.below hbc HX_21.out.lt)
    clear HA_14 HB_15 HN_16 ZN_17 BB_18 T1_19 Z1_20 HX_21
    clear hbc
    have HY_0 := hyb
    have ZY_0 := hyq
    clear hyb hyq
    obtain ⟨zha0, zha1, zha2, zha3⟩ := res_facts4 HA_22.out
    obtain ⟨zhn0, zhn1, zhn2, zhn3⟩ := res_facts4 HN_24.out
    try simp only [qV] at zha0 zha1 zha2 zha3 zhn0 zhn1 zhn2 zhn3
    have QL3 := Lib.hid (show QAt (wc.alloc (.cells (#[.int .i64 3, .int .i64 0, .string ⟨#[]⟩, .slice (some ⟨w.heap.size + 1 + 1, 0, none⟩) 2 2, .int .i64 9, .int .i64 0, .string ⟨#[]⟩, .slice none 0 0, .int .i64 1, .int .i64 0, .string ⟨#[]⟩, .slice none 0 0]) 24)) (fun _ => True) (qV 3 0 [] (some ⟨wc.heap.size, 0, none⟩) 3 3) qand3 from QAt.make (s := []) (i64P_lit (by omega)) (i64P_lit (by omega)) (by simp) ⟨Nat.le_refl _, by omega⟩ (lit_qs (w := wc) (fun i => if i = 0 then #[.int .i64 3, .int .i64 0, .string ⟨#[]⟩, .slice (some ⟨w.heap.size + 1 + 1, 0, none⟩) 2 2] else if i = 1 then aV else lfV 1) 3 (#[.int .i64 3, .int .i64 0, .string ⟨#[]⟩, .slice (some ⟨w.heap.size + 1 + 1, 0, none⟩) 2 2, .int .i64 9, .int .i64 0, .string ⟨#[]⟩, .slice none 0 0, .int .i64 1, .int .i64 0, .string ⟨#[]⟩, .slice none 0 0]) [qand, qa, leafO 1] rfl rfl (fun i q hi => by
      match i, hi with
      | 0, hi => simp only [List.getElem?_cons_zero, Option.some.injEq] at hi; subst hi; exact ZN_25.out
      | 1, hi => simp only [List.getElem?_cons_succ, List.getElem?_cons_zero, Option.some.injEq] at hi; subst hi; exact a_at
      | 2, hi => simp only [List.getElem?_cons_succ, List.getElem?_cons_zero, Option.some.injEq] at hi; subst hi; exact lf_at (by omega)) rfl))
    have EL := bel_alloc (Below.refl wc.heap.size wc) (.cells (#[.int .i64 3, .int .i64 0, .string ⟨#[]⟩, .slice (some ⟨w.heap.size + 1 + 1, 0, none⟩) 2 2, .int .i64 9, .int .i64 0, .string ⟨#[]⟩, .slice none 0 0, .int .i64 1, .int .i64 0, .string ⟨#[]⟩, .slice none 0 0]) 24)
    have HA_30 := Lib.hid (HA_22.out.below EL HA_22.out.lt)
    have HB_31 := Lib.hid (HB_23.out.below EL HB_23.out.lt)
    have HN_32 := Lib.hid (HN_24.out.below EL HN_24.out.lt)
    have ZN_33 := Lib.hid (ZN_25.out.bel EL)
    have BB_34 := Lib.hid (bel_step BB_26.out EL)
    have T1_35 := Lib.hid (T1_27.out.bel EL)
    have Z1_36 := Lib.hid (Z1_28.out.bel EL)
    have HX_37 := Lib.hid (HX_29.out.below EL HX_29.out.lt)
    have HY_38 := Lib.hid (HY_0.out.below EL HY_0.out.lt)
    have ZY_39 := Lib.hid (ZY_0.out.bel EL)
    clear HA_22 HB_23 HN_24 ZN_25 BB_26 T1_27 Z1_28 HX_29 HY_0 ZY_0
    clear EL
    have C5 := Lib.hid (HN3.out _ _ _ QL3.out)
    simp only [qV] at C5
    clear QL3
    go_wp2_with fail
    clear zha0 zha1 zha2 zha3 zhn0 zhn1 zhn2 zhn3
    (with_reducible refine (C5.out).mono ?_)
    rintro e wn3 ⟨vn, rfl, hqn, hbn3⟩
    have HZ := Lib.hid hqn
    obtain ⟨Az3, cz3, rfl, -, -, -, -, -, -⟩ := hqn.open_
    clear hqn
    have HA_40 := Lib.hid (HA_30.out.below hbn3 HA_30.out.lt)
    have HB_41 := Lib.hid (HB_31.out.below hbn3 HB_31.out.lt)
    have HN_42 := Lib.hid (HN_32.out.below hbn3 HN_32.out.lt)
    have ZN_43 := Lib.hid (ZN_33.out.bel hbn3)
    have BB_44 := Lib.hid (bel_step BB_34.out hbn3)
    have T1_45 := Lib.hid (T1_35.out.bel hbn3)
    have Z1_46 := Lib.hid (Z1_36.out.bel hbn3)
    have HX_47 := Lib.hid (HX_37.out.below hbn3 HX_37.out.lt)
    have HY_48 := Lib.hid (HY_38.out.below hbn3 HY_38.out.lt)
    have ZY_49 := Lib.hid (ZY_39.out.bel hbn3)
    clear HA_30 HB_31 HN_32 ZN_33 BB_34 T1_35 Z1_36 HX_37 HY_38 ZY_39
    have Z3_50 := HZ
    clear HZ
    try simp only [qV]
    rw [HE1.out]
    have E_51 := bel_alloc (Below.refl wn3.heap.size wn3) (.cells (qV X3.op X3.n X3.s Az3 X3.kids.length cz3) 24)
    have HA_51 := Lib.hid (HA_40.out.below E_51 HA_40.out.lt)
    have HB_52 := Lib.hid (HB_41.out.below E_51 HB_41.out.lt)
    have HN_53 := Lib.hid (HN_42.out.below E_51 HN_42.out.lt)
    have ZN_54 := Lib.hid (ZN_43.out.bel E_51)
    have BB_55 := Lib.hid (bel_step BB_44.out E_51)
    have T1_56 := Lib.hid (T1_45.out.bel E_51)
    have Z1_57 := Lib.hid (Z1_46.out.bel E_51)
    have HX_58 := Lib.hid (HX_47.out.below E_51 HX_47.out.lt)
    have HY_59 := Lib.hid (HY_48.out.below E_51 HY_48.out.lt)
    have ZY_60 := Lib.hid (ZY_49.out.bel E_51)
    have Z3_61 := Lib.hid (Z3_50.out.bel E_51)
    clear HA_40 HB_41 HN_42 ZN_43 BB_44 T1_45 Z1_46 HX_47 HY_48 ZY_49 Z3_50
    clear E_51
    have HZ_62 := Lib.hid (Blk.new wn3 24 (qV X3.op X3.n X3.s Az3 X3.kids.length cz3))
    have C6 := Lib.hid (HN4.out ((wn3.alloc (.cells (qV X3.op X3.n X3.s Az3 X3.kids.length cz3) 24))) #[.int .i64 5, .int .i64 0, .string ⟨#[]⟩, .slice none 0 0] (fun _ => True) (QAt.leaf (s := []) (i64P_lit (by omega)) (i64P_lit (by omega)) (by simp)))
    try simp only [qV] at C6 ⊢
    go_wp2_with fail
    (with_reducible refine (C6.out).mono ?_)
    rintro e wn4 ⟨vn, rfl, hqn, hbn4⟩
    obtain ⟨Az4, cz4, rfl, -, -, -, -, -, -⟩ := hqn.open_
    clear hqn
    have HA_63 := Lib.hid (HA_51.out.below hbn4 HA_51.out.lt)
    have HB_64 := Lib.hid (HB_52.out.below hbn4 HB_52.out.lt)
    have HN_65 := Lib.hid (HN_53.out.below hbn4 HN_53.out.lt)
    have ZN_66 := Lib.hid (ZN_54.out.bel hbn4)
    have BB_67 := Lib.hid (bel_step BB_55.out hbn4)
    have T1_68 := Lib.hid (T1_56.out.bel hbn4)
    have Z1_69 := Lib.hid (Z1_57.out.bel hbn4)
    have HX_70 := Lib.hid (HX_58.out.below hbn4 HX_58.out.lt)
    have HY_71 := Lib.hid (HY_59.out.below hbn4 HY_59.out.lt)
    have ZY_72 := Lib.hid (ZY_60.out.bel hbn4)
    have Z3_73 := Lib.hid (Z3_61.out.bel hbn4)
    have HZ_74 := Lib.hid (HZ_62.out.below hbn4 HZ_62.out.lt)
    clear HA_51 HB_52 HN_53 ZN_54 BB_55 T1_56 Z1_57 HX_58 HY_59 ZY_60 Z3_61 HZ_62
    rw [HE2.out]
    try simp only [qV, z_op, z_n, z_s, z_kids, List.length_nil]
    have E_75 := bel_alloc (Below.refl wn4.heap.size wn4) (.cells (#[.int .i64 0, .int .i64 0, .string ⟨#[]⟩, .slice Az4 0 cz4]) 24)
    have HA_75 := Lib.hid (HA_63.out.below E_75 HA_63.out.lt)
    have HB_76 := Lib.hid (HB_64.out.below E_75 HB_64.out.lt)
    have HN_77 := Lib.hid (HN_65.out.below E_75 HN_65.out.lt)
    have ZN_78 := Lib.hid (ZN_66.out.bel E_75)
    have BB_79 := Lib.hid (bel_step BB_67.out E_75)
    have T1_80 := Lib.hid (T1_68.out.bel E_75)
    have Z1_81 := Lib.hid (Z1_69.out.bel E_75)
    have HX_82 := Lib.hid (HX_70.out.below E_75 HX_70.out.lt)
    have HY_83 := Lib.hid (HY_71.out.below E_75 HY_71.out.lt)
    have ZY_84 := Lib.hid (ZY_72.out.bel E_75)
    have Z3_85 := Lib.hid (Z3_73.out.bel E_75)
    have HZ_86 := Lib.hid (HZ_74.out.below E_75 HZ_74.out.lt)
    clear HA_63 HB_64 HN_65 ZN_66 BB_67 T1_68 Z1_69 HX_70 HY_71 ZY_72 Z3_73 HZ_74
    clear E_75
    have HW_87 := Lib.hid (Blk.new wn4 24 (#[.int .i64 0, .int .i64 0, .string ⟨#[]⟩, .slice Az4 0 cz4]))
    go_wp2_with fail
    refine wp_region_seq (by kernel_rfl) [(0, true), (1, true), (2, true), (3, true), (4, true), (6, true), (5, false), (7, false), (8, false), (9, true), (10, false), (11, true), (12, true), (13, true), (14, true), (15, true), (16, true), (17, true), (18, true), (19, false), (20, true), (21, true), (22, true), (23, true), (24, true), (25, true), (26, true), (27, true), (28, false), (29, true), (30, true), (31, true), (32, true), (33, true), (34, true), (35, true), (36, false), (37, true), (38, true), (39, true), (40, true), (41, false), (42, true), (43, true), (44, true), (45, true), (46, false), (47, true), (48, true), (49, true), (50, true), (51, true), (52, false), (53, true), (54, true), (55, true), (56, true), (57, false), (58, true), (59, true), (60, true)] (by kernel_rfl) rfl (by kernel_rfl) ?_
    intro w0 hb0
    have HA_88 := Lib.hid (HA_75.out.below hb0 HA_75.out.lt)
    have HB_89 := Lib.hid (HB_76.out.below hb0 HB_76.out.lt)
    have HN_90 := Lib.hid (HN_77.out.below hb0 HN_77.out.lt)
    have ZN_91 := Lib.hid (ZN_78.out.bel hb0)
    have BB_92 := Lib.hid (bel_step BB_79.out hb0)
    have T1_93 := Lib.hid (T1_80.out.bel hb0)
    have Z1_94 := Lib.hid (Z1_81.out.bel hb0)
    have HX_95 := Lib.hid (HX_82.out.below hb0 HX_82.out.lt)
    have HY_96 := Lib.hid (HY_83.out.below hb0 HY_83.out.lt)
    have ZY_97 := Lib.hid (ZY_84.out.bel hb0)
    have Z3_98 := Lib.hid (Z3_85.out.bel hb0)
    have HZ_99 := Lib.hid (HZ_86.out.below hb0 HZ_86.out.lt)
    have HW_100 := Lib.hid (HW_87.out.below hb0 HW_87.out.lt)
    clear HA_75 HB_76 HN_77 ZN_78 BB_79 T1_80 Z1_81 HX_82 HY_83 ZY_84 Z3_85 HZ_86 HW_87
    clear hb0
    obtain ⟨zha0, zha1, zha2, zha3⟩ := res_facts4 HA_88.out
    obtain ⟨zhb0, zhb1, zhb2, zhb3⟩ := res_facts4 HB_89.out
    obtain ⟨zhn0, zhn1, zhn2, zhn3⟩ := res_facts4 HN_90.out
    obtain ⟨zhx0, zhx1, zhx2, zhx3⟩ := box_facts HX_95.out
    obtain ⟨zhy0, zhy1, zhy2, zhy3⟩ := box_facts HY_96.out
    obtain ⟨zhz0, zhz1, zhz2, zhz3⟩ := box_facts HZ_99.out
    try simp only [qV] at zha0 zha1 zha2 zha3 zhb0 zhb1 zhb2 zhb3 zhn0 zhn1 zhn2 zhn3 zhx0 zhx1 zhx2 zhx3 zhy0 zhy1 zhy2 zhy3 zhz0 zhz1 zhz2 zhz3
    have Lzha0_0 := later zha0
    have Lzha1_0 := later zha1
    have Lzha2_0 := later zha2
    have Lzha3_0 := later zha3
    have Lzhb0_0 := later zhb0
    have Lzhb1_0 := later zhb1
    have Lzhb2_0 := later zhb2
    have Lzhb3_0 := later zhb3
    have Lzhn0_0 := later zhn0
    have Lzhn1_0 := later zhn1
    have Lzhn2_0 := later zhn2
    have Lzhn3_0 := later zhn3
    have Lzhx0_0 := later zhx0
    have Lzhx1_0 := later zhx1
    have Lzhx2_0 := later zhx2
    have Lzhx3_0 := later zhx3
    have Lzhy0_0 := later zhy0
    have Lzhy1_0 := later zhy1
    have Lzhy2_0 := later zhy2
    have Lzhy3_0 := later zhy3
    have Lzhz0_0 := later zhz0
    have Lzhz1_0 := later zhz1
    have Lzhz2_0 := later zhz2
    have Lzhz3_0 := later zhz3
    clear zha0 zha1 zha2 zha3 zhb0 zhb1 zhb2 zhb3 zhn0 zhn1 zhn2 zhn3 zhx0 zhx1 zhx2 zhx3 zhy0 zhy1 zhy2 zhy3 zhz0 zhz1 zhz2 zhz3
    iterate 6 (refine wpSeq_take (o := ⟨_, _, _, _, _, _⟩) (v := ?_) rfl rfl ?_ ?_; rotate_left; (focus (intro W hW; go_simp; first | done | with_reducible rfl)); simp only [Act.put, List.setIfInBounds_toArray, List.set_cons_zero, List.set_cons_succ])
    have CN := Lib.hid (Not25_any qa aV w0 _ a_at)
    simp only [aV] at CN
    refine wpSeq_exec (o := ⟨_, _, _, _, _, _⟩) rfl rfl (fun K hK => ?_)
    go_simp
    (with_reducible refine (CN.out).mono ?_)
    rintro e v1 ⟨q1, rfl, hq1, hc1⟩
    have TA_0 := Lib.hid (hq1.bel (Below.refl _ _))
    obtain ⟨Aa, ca, rfl, -, -, -, -, -, -⟩ := hq1.open_
    clear hq1 CN
    simp only [qV]
    go_wp2_with fail
    refine hK _ _ hc1 ?_
    clear hK K
    have HA_101 := Lib.hid (HA_88.out.below hc1 HA_88.out.lt)
    have HB_102 := Lib.hid (HB_89.out.below hc1 HB_89.out.lt)
    have HN_103 := Lib.hid (HN_90.out.below hc1 HN_90.out.lt)
    have ZN_104 := Lib.hid (ZN_91.out.bel hc1)
    have BB_105 := Lib.hid (bel_step BB_92.out hc1)
    have T1_106 := Lib.hid (T1_93.out.bel hc1)
    have Z1_107 := Lib.hid (Z1_94.out.bel hc1)
    have HX_108 := Lib.hid (HX_95.out.below hc1 HX_95.out.lt)
    have HY_109 := Lib.hid (HY_96.out.below hc1 HY_96.out.lt)
    have ZY_110 := Lib.hid (ZY_97.out.bel hc1)
    have Z3_111 := Lib.hid (Z3_98.out.bel hc1)
    have HZ_112 := Lib.hid (HZ_99.out.below hc1 HZ_99.out.lt)
    have HW_113 := Lib.hid (HW_100.out.below hc1 HW_100.out.lt)
    clear HA_88 HB_89 HN_90 ZN_91 BB_92 T1_93 Z1_94 HX_95 HY_96 ZY_97 Z3_98 HZ_99 HW_100
    have Lzha0_1 := fun W (h : Below v1.heap.size v1 W) => Lzha0_0 W (bel_step hc1 h)
    have Lzha1_1 := fun W (h : Below v1.heap.size v1 W) => Lzha1_0 W (bel_step hc1 h)
    have Lzha2_1 := fun W (h : Below v1.heap.size v1 W) => Lzha2_0 W (bel_step hc1 h)
    have Lzha3_1 := fun W (h : Below v1.heap.size v1 W) => Lzha3_0 W (bel_step hc1 h)
    have Lzhb0_1 := fun W (h : Below v1.heap.size v1 W) => Lzhb0_0 W (bel_step hc1 h)
    have Lzhb1_1 := fun W (h : Below v1.heap.size v1 W) => Lzhb1_0 W (bel_step hc1 h)
    have Lzhb2_1 := fun W (h : Below v1.heap.size v1 W) => Lzhb2_0 W (bel_step hc1 h)
    have Lzhb3_1 := fun W (h : Below v1.heap.size v1 W) => Lzhb3_0 W (bel_step hc1 h)
    have Lzhn0_1 := fun W (h : Below v1.heap.size v1 W) => Lzhn0_0 W (bel_step hc1 h)
    have Lzhn1_1 := fun W (h : Below v1.heap.size v1 W) => Lzhn1_0 W (bel_step hc1 h)
    have Lzhn2_1 := fun W (h : Below v1.heap.size v1 W) => Lzhn2_0 W (bel_step hc1 h)
    have Lzhn3_1 := fun W (h : Below v1.heap.size v1 W) => Lzhn3_0 W (bel_step hc1 h)
    have Lzhx0_1 := fun W (h : Below v1.heap.size v1 W) => Lzhx0_0 W (bel_step hc1 h)
    have Lzhx1_1 := fun W (h : Below v1.heap.size v1 W) => Lzhx1_0 W (bel_step hc1 h)
    have Lzhx2_1 := fun W (h : Below v1.heap.size v1 W) => Lzhx2_0 W (bel_step hc1 h)
    have Lzhx3_1 := fun W (h : Below v1.heap.size v1 W) => Lzhx3_0 W (bel_step hc1 h)
    have Lzhy0_1 := fun W (h : Below v1.heap.size v1 W) => Lzhy0_0 W (bel_step hc1 h)
    have Lzhy1_1 := fun W (h : Below v1.heap.size v1 W) => Lzhy1_0 W (bel_step hc1 h)
    have Lzhy2_1 := fun W (h : Below v1.heap.size v1 W) => Lzhy2_0 W (bel_step hc1 h)
    have Lzhy3_1 := fun W (h : Below v1.heap.size v1 W) => Lzhy3_0 W (bel_step hc1 h)
    have Lzhz0_1 := fun W (h : Below v1.heap.size v1 W) => Lzhz0_0 W (bel_step hc1 h)
    have Lzhz1_1 := fun W (h : Below v1.heap.size v1 W) => Lzhz1_0 W (bel_step hc1 h)
    have Lzhz2_1 := fun W (h : Below v1.heap.size v1 W) => Lzhz2_0 W (bel_step hc1 h)
    have Lzhz3_1 := fun W (h : Below v1.heap.size v1 W) => Lzhz3_0 W (bel_step hc1 h)
    clear Lzha0_0 Lzha1_0 Lzha2_0 Lzha3_0 Lzhb0_0 Lzhb1_0 Lzhb2_0 Lzhb3_0 Lzhn0_0 Lzhn1_0 Lzhn2_0 Lzhn3_0 Lzhx0_0 Lzhx1_0 Lzhx2_0 Lzhx3_0 Lzhy0_0 Lzhy1_0 Lzhy2_0 Lzhy3_0 Lzhz0_0 Lzhz1_0 Lzhz2_0 Lzhz3_0
    have CN := Lib.hid (Not25_any qb bV v1 _ b_at)
    simp only [bV] at CN
    refine wpSeq_exec (o := ⟨_, _, _, _, _, _⟩) rfl rfl (fun K hK => ?_)
    go_simp
    (with_reducible refine (CN.out).mono ?_)
    rintro e v2 ⟨q2, rfl, hq2, hc2⟩
    have TB_0 := Lib.hid (hq2.bel (Below.refl _ _))
    obtain ⟨Ab, cb, rfl, -, -, -, -, -, -⟩ := hq2.open_
    clear hq2 CN
    simp only [qV]
    go_wp2_with fail
    refine hK _ _ hc2 ?_
    clear hK K
    have HA_114 := Lib.hid (HA_101.out.below hc2 HA_101.out.lt)
    have HB_115 := Lib.hid (HB_102.out.below hc2 HB_102.out.lt)
    have HN_116 := Lib.hid (HN_103.out.below hc2 HN_103.out.lt)
    have ZN_117 := Lib.hid (ZN_104.out.bel hc2)
    have BB_118 := Lib.hid (bel_step BB_105.out hc2)
    have T1_119 := Lib.hid (T1_106.out.bel hc2)
    have Z1_120 := Lib.hid (Z1_107.out.bel hc2)
    have HX_121 := Lib.hid (HX_108.out.below hc2 HX_108.out.lt)
    have HY_122 := Lib.hid (HY_109.out.below hc2 HY_109.out.lt)
    have ZY_123 := Lib.hid (ZY_110.out.bel hc2)
    have Z3_124 := Lib.hid (Z3_111.out.bel hc2)
    have HZ_125 := Lib.hid (HZ_112.out.below hc2 HZ_112.out.lt)
    have HW_126 := Lib.hid (HW_113.out.below hc2 HW_113.out.lt)
    have TA_127 := Lib.hid (TA_0.out.bel hc2)
    clear HA_101 HB_102 HN_103 ZN_104 BB_105 T1_106 Z1_107 HX_108 HY_109 ZY_110 Z3_111 HZ_112 HW_113 TA_0
    have Lzha0_2 := fun W (h : Below v2.heap.size v2 W) => Lzha0_1 W (bel_step hc2 h)
    have Lzha1_2 := fun W (h : Below v2.heap.size v2 W) => Lzha1_1 W (bel_step hc2 h)
    have Lzha2_2 := fun W (h : Below v2.heap.size v2 W) => Lzha2_1 W (bel_step hc2 h)
    have Lzha3_2 := fun W (h : Below v2.heap.size v2 W) => Lzha3_1 W (bel_step hc2 h)
    have Lzhb0_2 := fun W (h : Below v2.heap.size v2 W) => Lzhb0_1 W (bel_step hc2 h)
    have Lzhb1_2 := fun W (h : Below v2.heap.size v2 W) => Lzhb1_1 W (bel_step hc2 h)
    have Lzhb2_2 := fun W (h : Below v2.heap.size v2 W) => Lzhb2_1 W (bel_step hc2 h)
    have Lzhb3_2 := fun W (h : Below v2.heap.size v2 W) => Lzhb3_1 W (bel_step hc2 h)
    have Lzhn0_2 := fun W (h : Below v2.heap.size v2 W) => Lzhn0_1 W (bel_step hc2 h)
    have Lzhn1_2 := fun W (h : Below v2.heap.size v2 W) => Lzhn1_1 W (bel_step hc2 h)
    have Lzhn2_2 := fun W (h : Below v2.heap.size v2 W) => Lzhn2_1 W (bel_step hc2 h)
    have Lzhn3_2 := fun W (h : Below v2.heap.size v2 W) => Lzhn3_1 W (bel_step hc2 h)
    have Lzhx0_2 := fun W (h : Below v2.heap.size v2 W) => Lzhx0_1 W (bel_step hc2 h)
    have Lzhx1_2 := fun W (h : Below v2.heap.size v2 W) => Lzhx1_1 W (bel_step hc2 h)
    have Lzhx2_2 := fun W (h : Below v2.heap.size v2 W) => Lzhx2_1 W (bel_step hc2 h)
    have Lzhx3_2 := fun W (h : Below v2.heap.size v2 W) => Lzhx3_1 W (bel_step hc2 h)
    have Lzhy0_2 := fun W (h : Below v2.heap.size v2 W) => Lzhy0_1 W (bel_step hc2 h)
    have Lzhy1_2 := fun W (h : Below v2.heap.size v2 W) => Lzhy1_1 W (bel_step hc2 h)
    have Lzhy2_2 := fun W (h : Below v2.heap.size v2 W) => Lzhy2_1 W (bel_step hc2 h)
    have Lzhy3_2 := fun W (h : Below v2.heap.size v2 W) => Lzhy3_1 W (bel_step hc2 h)
    have Lzhz0_2 := fun W (h : Below v2.heap.size v2 W) => Lzhz0_1 W (bel_step hc2 h)
    have Lzhz1_2 := fun W (h : Below v2.heap.size v2 W) => Lzhz1_1 W (bel_step hc2 h)
    have Lzhz2_2 := fun W (h : Below v2.heap.size v2 W) => Lzhz2_1 W (bel_step hc2 h)
    have Lzhz3_2 := fun W (h : Below v2.heap.size v2 W) => Lzhz3_1 W (bel_step hc2 h)
    clear Lzha0_1 Lzha1_1 Lzha2_1 Lzha3_1 Lzhb0_1 Lzhb1_1 Lzhb2_1 Lzhb3_1 Lzhn0_1 Lzhn1_1 Lzhn2_1 Lzhn3_1 Lzhx0_1 Lzhx1_1 Lzhx2_1 Lzhx3_1 Lzhy0_1 Lzhy1_1 Lzhy2_1 Lzhy3_1 Lzhz0_1 Lzhz1_1 Lzhz2_1 Lzhz3_1
    refine wpSeq_exec (o := ⟨_, _, _, _, _, _⟩) rfl rfl (fun K hK => ?_)
    go_simp
    refine hK _ _ (bel_alloc (Below.refl _ _) _) ?_
    clear hK K
    have QO_0 := Lib.hid (show QAt (v2.alloc (.cells (#[.int .i64 (notQ qa).op, .int .i64 (notQ qa).n, .string ⟨(notQ qa).s.toArray⟩, .slice Aa (notQ qa).kids.length ca, .int .i64 (notQ qb).op, .int .i64 (notQ qb).n, .string ⟨(notQ qb).s.toArray⟩, .slice Ab (notQ qb).kids.length cb]) 24)) (fun _ => True) (qV 4 0 [] (some ⟨v2.heap.size, 0, none⟩) 2 2) qor2 from QAt.make (s := []) (i64P_lit (by omega)) (i64P_lit (by omega)) (by simp) ⟨Nat.le_refl _, by omega⟩ (lit_qs (w := v2) (fun i => if i = 0 then qV (notQ qa).op (notQ qa).n (notQ qa).s Aa (notQ qa).kids.length ca else qV (notQ qb).op (notQ qb).n (notQ qb).s Ab (notQ qb).kids.length cb) 2 (#[.int .i64 (notQ qa).op, .int .i64 (notQ qa).n, .string ⟨(notQ qa).s.toArray⟩, .slice Aa (notQ qa).kids.length ca, .int .i64 (notQ qb).op, .int .i64 (notQ qb).n, .string ⟨(notQ qb).s.toArray⟩, .slice Ab (notQ qb).kids.length cb]) [notQ qa, notQ qb] rfl rfl (fun i q hi => by
      match i, hi with
      | 0, hi => simp only [List.getElem?_cons_zero, Option.some.injEq] at hi; subst hi; exact TA_127.out.wide (fun _ _ _ => trivial)
      | 1, hi => simp only [List.getElem?_cons_succ, List.getElem?_cons_zero, Option.some.injEq] at hi; subst hi; exact TB_0.out.wide (fun _ _ _ => trivial)) rfl))
    have EL := bel_alloc (Below.refl v2.heap.size v2) (.cells (#[.int .i64 (notQ qa).op, .int .i64 (notQ qa).n, .string ⟨(notQ qa).s.toArray⟩, .slice Aa (notQ qa).kids.length ca, .int .i64 (notQ qb).op, .int .i64 (notQ qb).n, .string ⟨(notQ qb).s.toArray⟩, .slice Ab (notQ qb).kids.length cb]) 24)
    have HA_128 := Lib.hid (HA_114.out.below EL HA_114.out.lt)
    have HB_129 := Lib.hid (HB_115.out.below EL HB_115.out.lt)
    have HN_130 := Lib.hid (HN_116.out.below EL HN_116.out.lt)
    have ZN_131 := Lib.hid (ZN_117.out.bel EL)
    have BB_132 := Lib.hid (bel_step BB_118.out EL)
    have T1_133 := Lib.hid (T1_119.out.bel EL)
    have Z1_134 := Lib.hid (Z1_120.out.bel EL)
    have HX_135 := Lib.hid (HX_121.out.below EL HX_121.out.lt)
    have HY_136 := Lib.hid (HY_122.out.below EL HY_122.out.lt)
    have ZY_137 := Lib.hid (ZY_123.out.bel EL)
    have Z3_138 := Lib.hid (Z3_124.out.bel EL)
    have HZ_139 := Lib.hid (HZ_125.out.below EL HZ_125.out.lt)
    have HW_140 := Lib.hid (HW_126.out.below EL HW_126.out.lt)
    have TA_141 := Lib.hid (TA_127.out.bel EL)
    have TB_142 := Lib.hid (TB_0.out.bel EL)
    clear HA_114 HB_115 HN_116 ZN_117 BB_118 T1_119 Z1_120 HX_121 HY_122 ZY_123 Z3_124 HZ_125 HW_126 TA_127 TB_0
    have Lzha0_3 := fun W (h : Below (v2.alloc (.cells (#[.int .i64 (notQ qa).op, .int .i64 (notQ qa).n, .string ⟨(notQ qa).s.toArray⟩, .slice Aa (notQ qa).kids.length ca, .int .i64 (notQ qb).op, .int .i64 (notQ qb).n, .string ⟨(notQ qb).s.toArray⟩, .slice Ab (notQ qb).kids.length cb]) 24)).heap.size (v2.alloc (.cells (#[.int .i64 (notQ qa).op, .int .i64 (notQ qa).n, .string ⟨(notQ qa).s.toArray⟩, .slice Aa (notQ qa).kids.length ca, .int .i64 (notQ qb).op, .int .i64 (notQ qb).n, .string ⟨(notQ qb).s.toArray⟩, .slice Ab (notQ qb).kids.length cb]) 24)) W) => Lzha0_2 W (bel_step EL h)
    have Lzha1_3 := fun W (h : Below (v2.alloc (.cells (#[.int .i64 (notQ qa).op, .int .i64 (notQ qa).n, .string ⟨(notQ qa).s.toArray⟩, .slice Aa (notQ qa).kids.length ca, .int .i64 (notQ qb).op, .int .i64 (notQ qb).n, .string ⟨(notQ qb).s.toArray⟩, .slice Ab (notQ qb).kids.length cb]) 24)).heap.size (v2.alloc (.cells (#[.int .i64 (notQ qa).op, .int .i64 (notQ qa).n, .string ⟨(notQ qa).s.toArray⟩, .slice Aa (notQ qa).kids.length ca, .int .i64 (notQ qb).op, .int .i64 (notQ qb).n, .string ⟨(notQ qb).s.toArray⟩, .slice Ab (notQ qb).kids.length cb]) 24)) W) => Lzha1_2 W (bel_step EL h)
    have Lzha2_3 := fun W (h : Below (v2.alloc (.cells (#[.int .i64 (notQ qa).op, .int .i64 (notQ qa).n, .string ⟨(notQ qa).s.toArray⟩, .slice Aa (notQ qa).kids.length ca, .int .i64 (notQ qb).op, .int .i64 (notQ qb).n, .string ⟨(notQ qb).s.toArray⟩, .slice Ab (notQ qb).kids.length cb]) 24)).heap.size (v2.alloc (.cells (#[.int .i64 (notQ qa).op, .int .i64 (notQ qa).n, .string ⟨(notQ qa).s.toArray⟩, .slice Aa (notQ qa).kids.length ca, .int .i64 (notQ qb).op, .int .i64 (notQ qb).n, .string ⟨(notQ qb).s.toArray⟩, .slice Ab (notQ qb).kids.length cb]) 24)) W) => Lzha2_2 W (bel_step EL h)
    have Lzha3_3 := fun W (h : Below (v2.alloc (.cells (#[.int .i64 (notQ qa).op, .int .i64 (notQ qa).n, .string ⟨(notQ qa).s.toArray⟩, .slice Aa (notQ qa).kids.length ca, .int .i64 (notQ qb).op, .int .i64 (notQ qb).n, .string ⟨(notQ qb).s.toArray⟩, .slice Ab (notQ qb).kids.length cb]) 24)).heap.size (v2.alloc (.cells (#[.int .i64 (notQ qa).op, .int .i64 (notQ qa).n, .string ⟨(notQ qa).s.toArray⟩, .slice Aa (notQ qa).kids.length ca, .int .i64 (notQ qb).op, .int .i64 (notQ qb).n, .string ⟨(notQ qb).s.toArray⟩, .slice Ab (notQ qb).kids.length cb]) 24)) W) => Lzha3_2 W (bel_step EL h)
    have Lzhb0_3 := fun W (h : Below (v2.alloc (.cells (#[.int .i64 (notQ qa).op, .int .i64 (notQ qa).n, .string ⟨(notQ qa).s.toArray⟩, .slice Aa (notQ qa).kids.length ca, .int .i64 (notQ qb).op, .int .i64 (notQ qb).n, .string ⟨(notQ qb).s.toArray⟩, .slice Ab (notQ qb).kids.length cb]) 24)).heap.size (v2.alloc (.cells (#[.int .i64 (notQ qa).op, .int .i64 (notQ qa).n, .string ⟨(notQ qa).s.toArray⟩, .slice Aa (notQ qa).kids.length ca, .int .i64 (notQ qb).op, .int .i64 (notQ qb).n, .string ⟨(notQ qb).s.toArray⟩, .slice Ab (notQ qb).kids.length cb]) 24)) W) => Lzhb0_2 W (bel_step EL h)
    have Lzhb1_3 := fun W (h : Below (v2.alloc (.cells (#[.int .i64 (notQ qa).op, .int .i64 (notQ qa).n, .string ⟨(notQ qa).s.toArray⟩, .slice Aa (notQ qa).kids.length ca, .int .i64 (notQ qb).op, .int .i64 (notQ qb).n, .string ⟨(notQ qb).s.toArray⟩, .slice Ab (notQ qb).kids.length cb]) 24)).heap.size (v2.alloc (.cells (#[.int .i64 (notQ qa).op, .int .i64 (notQ qa).n, .string ⟨(notQ qa).s.toArray⟩, .slice Aa (notQ qa).kids.length ca, .int .i64 (notQ qb).op, .int .i64 (notQ qb).n, .string ⟨(notQ qb).s.toArray⟩, .slice Ab (notQ qb).kids.length cb]) 24)) W) => Lzhb1_2 W (bel_step EL h)
    have Lzhb2_3 := fun W (h : Below (v2.alloc (.cells (#[.int .i64 (notQ qa).op, .int .i64 (notQ qa).n, .string ⟨(notQ qa).s.toArray⟩, .slice Aa (notQ qa).kids.length ca, .int .i64 (notQ qb).op, .int .i64 (notQ qb).n, .string ⟨(notQ qb).s.toArray⟩, .slice Ab (notQ qb).kids.length cb]) 24)).heap.size (v2.alloc (.cells (#[.int .i64 (notQ qa).op, .int .i64 (notQ qa).n, .string ⟨(notQ qa).s.toArray⟩, .slice Aa (notQ qa).kids.length ca, .int .i64 (notQ qb).op, .int .i64 (notQ qb).n, .string ⟨(notQ qb).s.toArray⟩, .slice Ab (notQ qb).kids.length cb]) 24)) W) => Lzhb2_2 W (bel_step EL h)
    have Lzhb3_3 := fun W (h : Below (v2.alloc (.cells (#[.int .i64 (notQ qa).op, .int .i64 (notQ qa).n, .string ⟨(notQ qa).s.toArray⟩, .slice Aa (notQ qa).kids.length ca, .int .i64 (notQ qb).op, .int .i64 (notQ qb).n, .string ⟨(notQ qb).s.toArray⟩, .slice Ab (notQ qb).kids.length cb]) 24)).heap.size (v2.alloc (.cells (#[.int .i64 (notQ qa).op, .int .i64 (notQ qa).n, .string ⟨(notQ qa).s.toArray⟩, .slice Aa (notQ qa).kids.length ca, .int .i64 (notQ qb).op, .int .i64 (notQ qb).n, .string ⟨(notQ qb).s.toArray⟩, .slice Ab (notQ qb).kids.length cb]) 24)) W) => Lzhb3_2 W (bel_step EL h)
    have Lzhn0_3 := fun W (h : Below (v2.alloc (.cells (#[.int .i64 (notQ qa).op, .int .i64 (notQ qa).n, .string ⟨(notQ qa).s.toArray⟩, .slice Aa (notQ qa).kids.length ca, .int .i64 (notQ qb).op, .int .i64 (notQ qb).n, .string ⟨(notQ qb).s.toArray⟩, .slice Ab (notQ qb).kids.length cb]) 24)).heap.size (v2.alloc (.cells (#[.int .i64 (notQ qa).op, .int .i64 (notQ qa).n, .string ⟨(notQ qa).s.toArray⟩, .slice Aa (notQ qa).kids.length ca, .int .i64 (notQ qb).op, .int .i64 (notQ qb).n, .string ⟨(notQ qb).s.toArray⟩, .slice Ab (notQ qb).kids.length cb]) 24)) W) => Lzhn0_2 W (bel_step EL h)
    have Lzhn1_3 := fun W (h : Below (v2.alloc (.cells (#[.int .i64 (notQ qa).op, .int .i64 (notQ qa).n, .string ⟨(notQ qa).s.toArray⟩, .slice Aa (notQ qa).kids.length ca, .int .i64 (notQ qb).op, .int .i64 (notQ qb).n, .string ⟨(notQ qb).s.toArray⟩, .slice Ab (notQ qb).kids.length cb]) 24)).heap.size (v2.alloc (.cells (#[.int .i64 (notQ qa).op, .int .i64 (notQ qa).n, .string ⟨(notQ qa).s.toArray⟩, .slice Aa (notQ qa).kids.length ca, .int .i64 (notQ qb).op, .int .i64 (notQ qb).n, .string ⟨(notQ qb).s.toArray⟩, .slice Ab (notQ qb).kids.length cb]) 24)) W) => Lzhn1_2 W (bel_step EL h)
    have Lzhn2_3 := fun W (h : Below (v2.alloc (.cells (#[.int .i64 (notQ qa).op, .int .i64 (notQ qa).n, .string ⟨(notQ qa).s.toArray⟩, .slice Aa (notQ qa).kids.length ca, .int .i64 (notQ qb).op, .int .i64 (notQ qb).n, .string ⟨(notQ qb).s.toArray⟩, .slice Ab (notQ qb).kids.length cb]) 24)).heap.size (v2.alloc (.cells (#[.int .i64 (notQ qa).op, .int .i64 (notQ qa).n, .string ⟨(notQ qa).s.toArray⟩, .slice Aa (notQ qa).kids.length ca, .int .i64 (notQ qb).op, .int .i64 (notQ qb).n, .string ⟨(notQ qb).s.toArray⟩, .slice Ab (notQ qb).kids.length cb]) 24)) W) => Lzhn2_2 W (bel_step EL h)
    have Lzhn3_3 := fun W (h : Below (v2.alloc (.cells (#[.int .i64 (notQ qa).op, .int .i64 (notQ qa).n, .string ⟨(notQ qa).s.toArray⟩, .slice Aa (notQ qa).kids.length ca, .int .i64 (notQ qb).op, .int .i64 (notQ qb).n, .string ⟨(notQ qb).s.toArray⟩, .slice Ab (notQ qb).kids.length cb]) 24)).heap.size (v2.alloc (.cells (#[.int .i64 (notQ qa).op, .int .i64 (notQ qa).n, .string ⟨(notQ qa).s.toArray⟩, .slice Aa (notQ qa).kids.length ca, .int .i64 (notQ qb).op, .int .i64 (notQ qb).n, .string ⟨(notQ qb).s.toArray⟩, .slice Ab (notQ qb).kids.length cb]) 24)) W) => Lzhn3_2 W (bel_step EL h)
    have Lzhx0_3 := fun W (h : Below (v2.alloc (.cells (#[.int .i64 (notQ qa).op, .int .i64 (notQ qa).n, .string ⟨(notQ qa).s.toArray⟩, .slice Aa (notQ qa).kids.length ca, .int .i64 (notQ qb).op, .int .i64 (notQ qb).n, .string ⟨(notQ qb).s.toArray⟩, .slice Ab (notQ qb).kids.length cb]) 24)).heap.size (v2.alloc (.cells (#[.int .i64 (notQ qa).op, .int .i64 (notQ qa).n, .string ⟨(notQ qa).s.toArray⟩, .slice Aa (notQ qa).kids.length ca, .int .i64 (notQ qb).op, .int .i64 (notQ qb).n, .string ⟨(notQ qb).s.toArray⟩, .slice Ab (notQ qb).kids.length cb]) 24)) W) => Lzhx0_2 W (bel_step EL h)
    have Lzhx1_3 := fun W (h : Below (v2.alloc (.cells (#[.int .i64 (notQ qa).op, .int .i64 (notQ qa).n, .string ⟨(notQ qa).s.toArray⟩, .slice Aa (notQ qa).kids.length ca, .int .i64 (notQ qb).op, .int .i64 (notQ qb).n, .string ⟨(notQ qb).s.toArray⟩, .slice Ab (notQ qb).kids.length cb]) 24)).heap.size (v2.alloc (.cells (#[.int .i64 (notQ qa).op, .int .i64 (notQ qa).n, .string ⟨(notQ qa).s.toArray⟩, .slice Aa (notQ qa).kids.length ca, .int .i64 (notQ qb).op, .int .i64 (notQ qb).n, .string ⟨(notQ qb).s.toArray⟩, .slice Ab (notQ qb).kids.length cb]) 24)) W) => Lzhx1_2 W (bel_step EL h)
    have Lzhx2_3 := fun W (h : Below (v2.alloc (.cells (#[.int .i64 (notQ qa).op, .int .i64 (notQ qa).n, .string ⟨(notQ qa).s.toArray⟩, .slice Aa (notQ qa).kids.length ca, .int .i64 (notQ qb).op, .int .i64 (notQ qb).n, .string ⟨(notQ qb).s.toArray⟩, .slice Ab (notQ qb).kids.length cb]) 24)).heap.size (v2.alloc (.cells (#[.int .i64 (notQ qa).op, .int .i64 (notQ qa).n, .string ⟨(notQ qa).s.toArray⟩, .slice Aa (notQ qa).kids.length ca, .int .i64 (notQ qb).op, .int .i64 (notQ qb).n, .string ⟨(notQ qb).s.toArray⟩, .slice Ab (notQ qb).kids.length cb]) 24)) W) => Lzhx2_2 W (bel_step EL h)
    have Lzhx3_3 := fun W (h : Below (v2.alloc (.cells (#[.int .i64 (notQ qa).op, .int .i64 (notQ qa).n, .string ⟨(notQ qa).s.toArray⟩, .slice Aa (notQ qa).kids.length ca, .int .i64 (notQ qb).op, .int .i64 (notQ qb).n, .string ⟨(notQ qb).s.toArray⟩, .slice Ab (notQ qb).kids.length cb]) 24)).heap.size (v2.alloc (.cells (#[.int .i64 (notQ qa).op, .int .i64 (notQ qa).n, .string ⟨(notQ qa).s.toArray⟩, .slice Aa (notQ qa).kids.length ca, .int .i64 (notQ qb).op, .int .i64 (notQ qb).n, .string ⟨(notQ qb).s.toArray⟩, .slice Ab (notQ qb).kids.length cb]) 24)) W) => Lzhx3_2 W (bel_step EL h)
    have Lzhy0_3 := fun W (h : Below (v2.alloc (.cells (#[.int .i64 (notQ qa).op, .int .i64 (notQ qa).n, .string ⟨(notQ qa).s.toArray⟩, .slice Aa (notQ qa).kids.length ca, .int .i64 (notQ qb).op, .int .i64 (notQ qb).n, .string ⟨(notQ qb).s.toArray⟩, .slice Ab (notQ qb).kids.length cb]) 24)).heap.size (v2.alloc (.cells (#[.int .i64 (notQ qa).op, .int .i64 (notQ qa).n, .string ⟨(notQ qa).s.toArray⟩, .slice Aa (notQ qa).kids.length ca, .int .i64 (notQ qb).op, .int .i64 (notQ qb).n, .string ⟨(notQ qb).s.toArray⟩, .slice Ab (notQ qb).kids.length cb]) 24)) W) => Lzhy0_2 W (bel_step EL h)
    have Lzhy1_3 := fun W (h : Below (v2.alloc (.cells (#[.int .i64 (notQ qa).op, .int .i64 (notQ qa).n, .string ⟨(notQ qa).s.toArray⟩, .slice Aa (notQ qa).kids.length ca, .int .i64 (notQ qb).op, .int .i64 (notQ qb).n, .string ⟨(notQ qb).s.toArray⟩, .slice Ab (notQ qb).kids.length cb]) 24)).heap.size (v2.alloc (.cells (#[.int .i64 (notQ qa).op, .int .i64 (notQ qa).n, .string ⟨(notQ qa).s.toArray⟩, .slice Aa (notQ qa).kids.length ca, .int .i64 (notQ qb).op, .int .i64 (notQ qb).n, .string ⟨(notQ qb).s.toArray⟩, .slice Ab (notQ qb).kids.length cb]) 24)) W) => Lzhy1_2 W (bel_step EL h)
    have Lzhy2_3 := fun W (h : Below (v2.alloc (.cells (#[.int .i64 (notQ qa).op, .int .i64 (notQ qa).n, .string ⟨(notQ qa).s.toArray⟩, .slice Aa (notQ qa).kids.length ca, .int .i64 (notQ qb).op, .int .i64 (notQ qb).n, .string ⟨(notQ qb).s.toArray⟩, .slice Ab (notQ qb).kids.length cb]) 24)).heap.size (v2.alloc (.cells (#[.int .i64 (notQ qa).op, .int .i64 (notQ qa).n, .string ⟨(notQ qa).s.toArray⟩, .slice Aa (notQ qa).kids.length ca, .int .i64 (notQ qb).op, .int .i64 (notQ qb).n, .string ⟨(notQ qb).s.toArray⟩, .slice Ab (notQ qb).kids.length cb]) 24)) W) => Lzhy2_2 W (bel_step EL h)
    have Lzhy3_3 := fun W (h : Below (v2.alloc (.cells (#[.int .i64 (notQ qa).op, .int .i64 (notQ qa).n, .string ⟨(notQ qa).s.toArray⟩, .slice Aa (notQ qa).kids.length ca, .int .i64 (notQ qb).op, .int .i64 (notQ qb).n, .string ⟨(notQ qb).s.toArray⟩, .slice Ab (notQ qb).kids.length cb]) 24)).heap.size (v2.alloc (.cells (#[.int .i64 (notQ qa).op, .int .i64 (notQ qa).n, .string ⟨(notQ qa).s.toArray⟩, .slice Aa (notQ qa).kids.length ca, .int .i64 (notQ qb).op, .int .i64 (notQ qb).n, .string ⟨(notQ qb).s.toArray⟩, .slice Ab (notQ qb).kids.length cb]) 24)) W) => Lzhy3_2 W (bel_step EL h)
    have Lzhz0_3 := fun W (h : Below (v2.alloc (.cells (#[.int .i64 (notQ qa).op, .int .i64 (notQ qa).n, .string ⟨(notQ qa).s.toArray⟩, .slice Aa (notQ qa).kids.length ca, .int .i64 (notQ qb).op, .int .i64 (notQ qb).n, .string ⟨(notQ qb).s.toArray⟩, .slice Ab (notQ qb).kids.length cb]) 24)).heap.size (v2.alloc (.cells (#[.int .i64 (notQ qa).op, .int .i64 (notQ qa).n, .string ⟨(notQ qa).s.toArray⟩, .slice Aa (notQ qa).kids.length ca, .int .i64 (notQ qb).op, .int .i64 (notQ qb).n, .string ⟨(notQ qb).s.toArray⟩, .slice Ab (notQ qb).kids.length cb]) 24)) W) => Lzhz0_2 W (bel_step EL h)
    have Lzhz1_3 := fun W (h : Below (v2.alloc (.cells (#[.int .i64 (notQ qa).op, .int .i64 (notQ qa).n, .string ⟨(notQ qa).s.toArray⟩, .slice Aa (notQ qa).kids.length ca, .int .i64 (notQ qb).op, .int .i64 (notQ qb).n, .string ⟨(notQ qb).s.toArray⟩, .slice Ab (notQ qb).kids.length cb]) 24)).heap.size (v2.alloc (.cells (#[.int .i64 (notQ qa).op, .int .i64 (notQ qa).n, .string ⟨(notQ qa).s.toArray⟩, .slice Aa (notQ qa).kids.length ca, .int .i64 (notQ qb).op, .int .i64 (notQ qb).n, .string ⟨(notQ qb).s.toArray⟩, .slice Ab (notQ qb).kids.length cb]) 24)) W) => Lzhz1_2 W (bel_step EL h)
    have Lzhz2_3 := fun W (h : Below (v2.alloc (.cells (#[.int .i64 (notQ qa).op, .int .i64 (notQ qa).n, .string ⟨(notQ qa).s.toArray⟩, .slice Aa (notQ qa).kids.length ca, .int .i64 (notQ qb).op, .int .i64 (notQ qb).n, .string ⟨(notQ qb).s.toArray⟩, .slice Ab (notQ qb).kids.length cb]) 24)).heap.size (v2.alloc (.cells (#[.int .i64 (notQ qa).op, .int .i64 (notQ qa).n, .string ⟨(notQ qa).s.toArray⟩, .slice Aa (notQ qa).kids.length ca, .int .i64 (notQ qb).op, .int .i64 (notQ qb).n, .string ⟨(notQ qb).s.toArray⟩, .slice Ab (notQ qb).kids.length cb]) 24)) W) => Lzhz2_2 W (bel_step EL h)
    have Lzhz3_3 := fun W (h : Below (v2.alloc (.cells (#[.int .i64 (notQ qa).op, .int .i64 (notQ qa).n, .string ⟨(notQ qa).s.toArray⟩, .slice Aa (notQ qa).kids.length ca, .int .i64 (notQ qb).op, .int .i64 (notQ qb).n, .string ⟨(notQ qb).s.toArray⟩, .slice Ab (notQ qb).kids.length cb]) 24)).heap.size (v2.alloc (.cells (#[.int .i64 (notQ qa).op, .int .i64 (notQ qa).n, .string ⟨(notQ qa).s.toArray⟩, .slice Aa (notQ qa).kids.length ca, .int .i64 (notQ qb).op, .int .i64 (notQ qb).n, .string ⟨(notQ qb).s.toArray⟩, .slice Ab (notQ qb).kids.length cb]) 24)) W) => Lzhz3_2 W (bel_step EL h)
    clear Lzha0_2 Lzha1_2 Lzha2_2 Lzha3_2 Lzhb0_2 Lzhb1_2 Lzhb2_2 Lzhb3_2 Lzhn0_2 Lzhn1_2 Lzhn2_2 Lzhn3_2 Lzhx0_2 Lzhx1_2 Lzhx2_2 Lzhx3_2 Lzhy0_2 Lzhy1_2 Lzhy2_2 Lzhy3_2 Lzhz0_2 Lzhz1_2 Lzhz2_2 Lzhz3_2
    clear EL
    iterate 1 (refine wpSeq_take (o := ⟨_, _, _, _, _, _⟩) (v := ?_) rfl rfl ?_ ?_; rotate_left; (focus (intro W hW; go_simp; first | done | with_reducible rfl)); simp only [Act.put, List.setIfInBounds_toArray, List.set_cons_zero, List.set_cons_succ])
    have D10 := Lib.hid (refSame_any25 X1 qor2 _ _ _ _ _ Z1_134.out QO_0.out)
    try simp only [qV, lfV] at D10
    rw [H1.out] at D10
    refine wpSeq_exec (o := ⟨_, _, _, _, _, _⟩) rfl rfl (fun K hK => ?_)
    go_simp
    (with_reducible refine (D10.out).mono ?_)
    rintro e v3 ⟨rfl, hc3⟩
    go_wp2_with fail
    refine hK _ _ hc3 ?_
    clear hK K
    have HA_143 := Lib.hid (HA_128.out.below hc3 HA_128.out.lt)
    have HB_144 := Lib.hid (HB_129.out.below hc3 HB_129.out.lt)
    have HN_145 := Lib.hid (HN_130.out.below hc3 HN_130.out.lt)
    have ZN_146 := Lib.hid (ZN_131.out.bel hc3)
    have BB_147 := Lib.hid (bel_step BB_132.out hc3)
    have T1_148 := Lib.hid (T1_133.out.bel hc3)
    have Z1_149 := Lib.hid (Z1_134.out.bel hc3)
    have HX_150 := Lib.hid (HX_135.out.below hc3 HX_135.out.lt)
    have HY_151 := Lib.hid (HY_136.out.below hc3 HY_136.out.lt)
    have ZY_152 := Lib.hid (ZY_137.out.bel hc3)
    have Z3_153 := Lib.hid (Z3_138.out.bel hc3)
    have HZ_154 := Lib.hid (HZ_139.out.below hc3 HZ_139.out.lt)
    have HW_155 := Lib.hid (HW_140.out.below hc3 HW_140.out.lt)
    have TA_156 := Lib.hid (TA_141.out.bel hc3)
    have TB_157 := Lib.hid (TB_142.out.bel hc3)
    have QO_158 := Lib.hid (QO_0.out.bel hc3)
    clear HA_128 HB_129 HN_130 ZN_131 BB_132 T1_133 Z1_134 HX_135 HY_136 ZY_137 Z3_138 HZ_139 HW_140 TA_141 TB_142 QO_0
    have Lzha0_4 := fun W (h : Below v3.heap.size v3 W) => Lzha0_3 W (bel_step hc3 h)
    have Lzha1_4 := fun W (h : Below v3.heap.size v3 W) => Lzha1_3 W (bel_step hc3 h)
    have Lzha2_4 := fun W (h : Below v3.heap.size v3 W) => Lzha2_3 W (bel_step hc3 h)
    have Lzha3_4 := fun W (h : Below v3.heap.size v3 W) => Lzha3_3 W (bel_step hc3 h)
    have Lzhb0_4 := fun W (h : Below v3.heap.size v3 W) => Lzhb0_3 W (bel_step hc3 h)
    have Lzhb1_4 := fun W (h : Below v3.heap.size v3 W) => Lzhb1_3 W (bel_step hc3 h)
    have Lzhb2_4 := fun W (h : Below v3.heap.size v3 W) => Lzhb2_3 W (bel_step hc3 h)
    have Lzhb3_4 := fun W (h : Below v3.heap.size v3 W) => Lzhb3_3 W (bel_step hc3 h)
    have Lzhn0_4 := fun W (h : Below v3.heap.size v3 W) => Lzhn0_3 W (bel_step hc3 h)
    have Lzhn1_4 := fun W (h : Below v3.heap.size v3 W) => Lzhn1_3 W (bel_step hc3 h)
    have Lzhn2_4 := fun W (h : Below v3.heap.size v3 W) => Lzhn2_3 W (bel_step hc3 h)
    have Lzhn3_4 := fun W (h : Below v3.heap.size v3 W) => Lzhn3_3 W (bel_step hc3 h)
    have Lzhx0_4 := fun W (h : Below v3.heap.size v3 W) => Lzhx0_3 W (bel_step hc3 h)
    have Lzhx1_4 := fun W (h : Below v3.heap.size v3 W) => Lzhx1_3 W (bel_step hc3 h)
    have Lzhx2_4 := fun W (h : Below v3.heap.size v3 W) => Lzhx2_3 W (bel_step hc3 h)
    have Lzhx3_4 := fun W (h : Below v3.heap.size v3 W) => Lzhx3_3 W (bel_step hc3 h)
    have Lzhy0_4 := fun W (h : Below v3.heap.size v3 W) => Lzhy0_3 W (bel_step hc3 h)
    have Lzhy1_4 := fun W (h : Below v3.heap.size v3 W) => Lzhy1_3 W (bel_step hc3 h)
    have Lzhy2_4 := fun W (h : Below v3.heap.size v3 W) => Lzhy2_3 W (bel_step hc3 h)
    have Lzhy3_4 := fun W (h : Below v3.heap.size v3 W) => Lzhy3_3 W (bel_step hc3 h)
    have Lzhz0_4 := fun W (h : Below v3.heap.size v3 W) => Lzhz0_3 W (bel_step hc3 h)
    have Lzhz1_4 := fun W (h : Below v3.heap.size v3 W) => Lzhz1_3 W (bel_step hc3 h)
    have Lzhz2_4 := fun W (h : Below v3.heap.size v3 W) => Lzhz2_3 W (bel_step hc3 h)
    have Lzhz3_4 := fun W (h : Below v3.heap.size v3 W) => Lzhz3_3 W (bel_step hc3 h)
    clear Lzha0_3 Lzha1_3 Lzha2_3 Lzha3_3 Lzhb0_3 Lzhb1_3 Lzhb2_3 Lzhb3_3 Lzhn0_3 Lzhn1_3 Lzhn2_3 Lzhn3_3 Lzhx0_3 Lzhx1_3 Lzhx2_3 Lzhx3_3 Lzhy0_3 Lzhy1_3 Lzhy2_3 Lzhy3_3 Lzhz0_3 Lzhz1_3 Lzhz2_3 Lzhz3_3
    iterate 8 (refine wpSeq_take (o := ⟨_, _, _, _, _, _⟩) (v := ?_) rfl rfl ?_ ?_; rotate_left; (focus (intro W hW; go_simp; first | done | with_reducible rfl)); simp only [Act.put, List.setIfInBounds_toArray, List.set_cons_zero, List.set_cons_succ])
    have D19 := Lib.hid (refSame_any25 X2 (leafO 1) _ (lfV 1) _ _ (fun _ => True) ZY_152.out (lf_at (by omega)))
    try simp only [qV, lfV] at D19
    rw [H2.out] at D19
    refine wpSeq_exec (o := ⟨_, _, _, _, _, _⟩) rfl rfl (fun K hK => ?_)
    go_simp
    (with_reducible refine (D19.out).mono ?_)
    rintro e v4 ⟨rfl, hc4⟩
    go_wp2_with fail
    refine hK _ _ hc4 ?_
    clear hK K
    have HA_159 := Lib.hid (HA_143.out.below hc4 HA_143.out.lt)
    have HB_160 := Lib.hid (HB_144.out.below hc4 HB_144.out.lt)
    have HN_161 := Lib.hid (HN_145.out.below hc4 HN_145.out.lt)
    have ZN_162 := Lib.hid (ZN_146.out.bel hc4)
    have BB_163 := Lib.hid (bel_step BB_147.out hc4)
    have T1_164 := Lib.hid (T1_148.out.bel hc4)
    have Z1_165 := Lib.hid (Z1_149.out.bel hc4)
    have HX_166 := Lib.hid (HX_150.out.below hc4 HX_150.out.lt)
    have HY_167 := Lib.hid (HY_151.out.below hc4 HY_151.out.lt)
    have ZY_168 := Lib.hid (ZY_152.out.bel hc4)
    have Z3_169 := Lib.hid (Z3_153.out.bel hc4)
    have HZ_170 := Lib.hid (HZ_154.out.below hc4 HZ_154.out.lt)
    have HW_171 := Lib.hid (HW_155.out.below hc4 HW_155.out.lt)
    have TA_172 := Lib.hid (TA_156.out.bel hc4)
    have TB_173 := Lib.hid (TB_157.out.bel hc4)
    have QO_174 := Lib.hid (QO_158.out.bel hc4)
    clear HA_143 HB_144 HN_145 ZN_146 BB_147 T1_148 Z1_149 HX_150 HY_151 ZY_152 Z3_153 HZ_154 HW_155 TA_156 TB_157 QO_158
    have Lzha0_5 := fun W (h : Below v4.heap.size v4 W) => Lzha0_4 W (bel_step hc4 h)
    have Lzha1_5 := fun W (h : Below v4.heap.size v4 W) => Lzha1_4 W (bel_step hc4 h)
    have Lzha2_5 := fun W (h : Below v4.heap.size v4 W) => Lzha2_4 W (bel_step hc4 h)
    have Lzha3_5 := fun W (h : Below v4.heap.size v4 W) => Lzha3_4 W (bel_step hc4 h)
    have Lzhb0_5 := fun W (h : Below v4.heap.size v4 W) => Lzhb0_4 W (bel_step hc4 h)
    have Lzhb1_5 := fun W (h : Below v4.heap.size v4 W) => Lzhb1_4 W (bel_step hc4 h)
    have Lzhb2_5 := fun W (h : Below v4.heap.size v4 W) => Lzhb2_4 W (bel_step hc4 h)
    have Lzhb3_5 := fun W (h : Below v4.heap.size v4 W) => Lzhb3_4 W (bel_step hc4 h)
    have Lzhn0_5 := fun W (h : Below v4.heap.size v4 W) => Lzhn0_4 W (bel_step hc4 h)
    have Lzhn1_5 := fun W (h : Below v4.heap.size v4 W) => Lzhn1_4 W (bel_step hc4 h)
    have Lzhn2_5 := fun W (h : Below v4.heap.size v4 W) => Lzhn2_4 W (bel_step hc4 h)
    have Lzhn3_5 := fun W (h : Below v4.heap.size v4 W) => Lzhn3_4 W (bel_step hc4 h)
    have Lzhx0_5 := fun W (h : Below v4.heap.size v4 W) => Lzhx0_4 W (bel_step hc4 h)
    have Lzhx1_5 := fun W (h : Below v4.heap.size v4 W) => Lzhx1_4 W (bel_step hc4 h)
    have Lzhx2_5 := fun W (h : Below v4.heap.size v4 W) => Lzhx2_4 W (bel_step hc4 h)
    have Lzhx3_5 := fun W (h : Below v4.heap.size v4 W) => Lzhx3_4 W (bel_step hc4 h)
    have Lzhy0_5 := fun W (h : Below v4.heap.size v4 W) => Lzhy0_4 W (bel_step hc4 h)
    have Lzhy1_5 := fun W (h : Below v4.heap.size v4 W) => Lzhy1_4 W (bel_step hc4 h)
    have Lzhy2_5 := fun W (h : Below v4.heap.size v4 W) => Lzhy2_4 W (bel_step hc4 h)
    have Lzhy3_5 := fun W (h : Below v4.heap.size v4 W) => Lzhy3_4 W (bel_step hc4 h)
    have Lzhz0_5 := fun W (h : Below v4.heap.size v4 W) => Lzhz0_4 W (bel_step hc4 h)
    have Lzhz1_5 := fun W (h : Below v4.heap.size v4 W) => Lzhz1_4 W (bel_step hc4 h)
    have Lzhz2_5 := fun W (h : Below v4.heap.size v4 W) => Lzhz2_4 W (bel_step hc4 h)
    have Lzhz3_5 := fun W (h : Below v4.heap.size v4 W) => Lzhz3_4 W (bel_step hc4 h)
    clear Lzha0_4 Lzha1_4 Lzha2_4 Lzha3_4 Lzhb0_4 Lzhb1_4 Lzhb2_4 Lzhb3_4 Lzhn0_4 Lzhn1_4 Lzhn2_4 Lzhn3_4 Lzhx0_4 Lzhx1_4 Lzhx2_4 Lzhx3_4 Lzhy0_4 Lzhy1_4 Lzhy2_4 Lzhy3_4 Lzhz0_4 Lzhz1_4 Lzhz2_4 Lzhz3_4
    iterate 8 (refine wpSeq_take (o := ⟨_, _, _, _, _, _⟩) (v := ?_) rfl rfl ?_ ?_; rotate_left; (focus (intro W hW; go_simp; first | done | with_reducible rfl)); simp only [Act.put, List.setIfInBounds_toArray, List.set_cons_zero, List.set_cons_succ])
    have D28 := Lib.hid (refSame_any25 X3 qand _ _ _ _ _ Z3_169.out ZN_162.out)
    try simp only [qV, lfV] at D28
    rw [H3.out] at D28
    refine wpSeq_exec (o := ⟨_, _, _, _, _, _⟩) rfl rfl (fun K hK => ?_)
    go_simp
    (with_reducible refine (D28.out).mono ?_)
    rintro e v5 ⟨rfl, hc5⟩
    go_wp2_with fail
    refine hK _ _ hc5 ?_
    clear hK K
    have HA_175 := Lib.hid (HA_159.out.below hc5 HA_159.out.lt)
    have HB_176 := Lib.hid (HB_160.out.below hc5 HB_160.out.lt)
    have HN_177 := Lib.hid (HN_161.out.below hc5 HN_161.out.lt)
    have ZN_178 := Lib.hid (ZN_162.out.bel hc5)
    have BB_179 := Lib.hid (bel_step BB_163.out hc5)
    have T1_180 := Lib.hid (T1_164.out.bel hc5)
    have Z1_181 := Lib.hid (Z1_165.out.bel hc5)
    have HX_182 := Lib.hid (HX_166.out.below hc5 HX_166.out.lt)
    have HY_183 := Lib.hid (HY_167.out.below hc5 HY_167.out.lt)
    have ZY_184 := Lib.hid (ZY_168.out.bel hc5)
    have Z3_185 := Lib.hid (Z3_169.out.bel hc5)
    have HZ_186 := Lib.hid (HZ_170.out.below hc5 HZ_170.out.lt)
    have HW_187 := Lib.hid (HW_171.out.below hc5 HW_171.out.lt)
    have TA_188 := Lib.hid (TA_172.out.bel hc5)
    have TB_189 := Lib.hid (TB_173.out.bel hc5)
    have QO_190 := Lib.hid (QO_174.out.bel hc5)
    clear HA_159 HB_160 HN_161 ZN_162 BB_163 T1_164 Z1_165 HX_166 HY_167 ZY_168 Z3_169 HZ_170 HW_171 TA_172 TB_173 QO_174
    have Lzha0_6 := fun W (h : Below v5.heap.size v5 W) => Lzha0_5 W (bel_step hc5 h)
    have Lzha1_6 := fun W (h : Below v5.heap.size v5 W) => Lzha1_5 W (bel_step hc5 h)
    have Lzha2_6 := fun W (h : Below v5.heap.size v5 W) => Lzha2_5 W (bel_step hc5 h)
    have Lzha3_6 := fun W (h : Below v5.heap.size v5 W) => Lzha3_5 W (bel_step hc5 h)
    have Lzhb0_6 := fun W (h : Below v5.heap.size v5 W) => Lzhb0_5 W (bel_step hc5 h)
    have Lzhb1_6 := fun W (h : Below v5.heap.size v5 W) => Lzhb1_5 W (bel_step hc5 h)
    have Lzhb2_6 := fun W (h : Below v5.heap.size v5 W) => Lzhb2_5 W (bel_step hc5 h)
    have Lzhb3_6 := fun W (h : Below v5.heap.size v5 W) => Lzhb3_5 W (bel_step hc5 h)
    have Lzhn0_6 := fun W (h : Below v5.heap.size v5 W) => Lzhn0_5 W (bel_step hc5 h)
    have Lzhn1_6 := fun W (h : Below v5.heap.size v5 W) => Lzhn1_5 W (bel_step hc5 h)
    have Lzhn2_6 := fun W (h : Below v5.heap.size v5 W) => Lzhn2_5 W (bel_step hc5 h)
    have Lzhn3_6 := fun W (h : Below v5.heap.size v5 W) => Lzhn3_5 W (bel_step hc5 h)
    have Lzhx0_6 := fun W (h : Below v5.heap.size v5 W) => Lzhx0_5 W (bel_step hc5 h)
    have Lzhx1_6 := fun W (h : Below v5.heap.size v5 W) => Lzhx1_5 W (bel_step hc5 h)
    have Lzhx2_6 := fun W (h : Below v5.heap.size v5 W) => Lzhx2_5 W (bel_step hc5 h)
    have Lzhx3_6 := fun W (h : Below v5.heap.size v5 W) => Lzhx3_5 W (bel_step hc5 h)
    have Lzhy0_6 := fun W (h : Below v5.heap.size v5 W) => Lzhy0_5 W (bel_step hc5 h)
    have Lzhy1_6 := fun W (h : Below v5.heap.size v5 W) => Lzhy1_5 W (bel_step hc5 h)
    have Lzhy2_6 := fun W (h : Below v5.heap.size v5 W) => Lzhy2_5 W (bel_step hc5 h)
    have Lzhy3_6 := fun W (h : Below v5.heap.size v5 W) => Lzhy3_5 W (bel_step hc5 h)
    have Lzhz0_6 := fun W (h : Below v5.heap.size v5 W) => Lzhz0_5 W (bel_step hc5 h)
    have Lzhz1_6 := fun W (h : Below v5.heap.size v5 W) => Lzhz1_5 W (bel_step hc5 h)
    have Lzhz2_6 := fun W (h : Below v5.heap.size v5 W) => Lzhz2_5 W (bel_step hc5 h)
    have Lzhz3_6 := fun W (h : Below v5.heap.size v5 W) => Lzhz3_5 W (bel_step hc5 h)
    clear Lzha0_5 Lzha1_5 Lzha2_5 Lzha3_5 Lzhb0_5 Lzhb1_5 Lzhb2_5 Lzhb3_5 Lzhn0_5 Lzhn1_5 Lzhn2_5 Lzhn3_5 Lzhx0_5 Lzhx1_5 Lzhx2_5 Lzhx3_5 Lzhy0_5 Lzhy1_5 Lzhy2_5 Lzhy3_5 Lzhz0_5 Lzhz1_5 Lzhz2_5 Lzhz3_5
    iterate 7 (refine wpSeq_take (o := ⟨_, _, _, _, _, _⟩) (v := ?_) rfl rfl ?_ ?_; rotate_left; (focus (intro W hW; go_simp; first | done | with_reducible rfl)); simp only [Act.put, List.setIfInBounds_toArray, List.set_cons_zero, List.set_cons_succ])
    have D36 := Lib.hid (Check25_any qand ask5 _ _ _ ZN_178.out)
    try simp only [qV, lfV] at D36
    rw [ok5, HE1.out] at D36
    refine wpSeq_exec (o := ⟨_, _, _, _, _, _⟩) rfl rfl (fun K hK => ?_)
    go_simp
    (with_reducible refine (D36.out).mono ?_)
    rintro e v6 ⟨rfl, hc6⟩
    go_wp2_with fail
    refine hK _ _ hc6 ?_
    clear hK K
    have HA_191 := Lib.hid (HA_175.out.below hc6 HA_175.out.lt)
    have HB_192 := Lib.hid (HB_176.out.below hc6 HB_176.out.lt)
    have HN_193 := Lib.hid (HN_177.out.below hc6 HN_177.out.lt)
    have ZN_194 := Lib.hid (ZN_178.out.bel hc6)
    have BB_195 := Lib.hid (bel_step BB_179.out hc6)
    have T1_196 := Lib.hid (T1_180.out.bel hc6)
    have Z1_197 := Lib.hid (Z1_181.out.bel hc6)
    have HX_198 := Lib.hid (HX_182.out.below hc6 HX_182.out.lt)
    have HY_199 := Lib.hid (HY_183.out.below hc6 HY_183.out.lt)
    have ZY_200 := Lib.hid (ZY_184.out.bel hc6)
    have Z3_201 := Lib.hid (Z3_185.out.bel hc6)
    have HZ_202 := Lib.hid (HZ_186.out.below hc6 HZ_186.out.lt)
    have HW_203 := Lib.hid (HW_187.out.below hc6 HW_187.out.lt)
    have TA_204 := Lib.hid (TA_188.out.bel hc6)
    have TB_205 := Lib.hid (TB_189.out.bel hc6)
    have QO_206 := Lib.hid (QO_190.out.bel hc6)
    clear HA_175 HB_176 HN_177 ZN_178 BB_179 T1_180 Z1_181 HX_182 HY_183 ZY_184 Z3_185 HZ_186 HW_187 TA_188 TB_189 QO_190
    have Lzha0_7 := fun W (h : Below v6.heap.size v6 W) => Lzha0_6 W (bel_step hc6 h)
    have Lzha1_7 := fun W (h : Below v6.heap.size v6 W) => Lzha1_6 W (bel_step hc6 h)
    have Lzha2_7 := fun W (h : Below v6.heap.size v6 W) => Lzha2_6 W (bel_step hc6 h)
    have Lzha3_7 := fun W (h : Below v6.heap.size v6 W) => Lzha3_6 W (bel_step hc6 h)
    have Lzhb0_7 := fun W (h : Below v6.heap.size v6 W) => Lzhb0_6 W (bel_step hc6 h)
    have Lzhb1_7 := fun W (h : Below v6.heap.size v6 W) => Lzhb1_6 W (bel_step hc6 h)
    have Lzhb2_7 := fun W (h : Below v6.heap.size v6 W) => Lzhb2_6 W (bel_step hc6 h)
    have Lzhb3_7 := fun W (h : Below v6.heap.size v6 W) => Lzhb3_6 W (bel_step hc6 h)
    have Lzhn0_7 := fun W (h : Below v6.heap.size v6 W) => Lzhn0_6 W (bel_step hc6 h)
    have Lzhn1_7 := fun W (h : Below v6.heap.size v6 W) => Lzhn1_6 W (bel_step hc6 h)
    have Lzhn2_7 := fun W (h : Below v6.heap.size v6 W) => Lzhn2_6 W (bel_step hc6 h)
    have Lzhn3_7 := fun W (h : Below v6.heap.size v6 W) => Lzhn3_6 W (bel_step hc6 h)
    have Lzhx0_7 := fun W (h : Below v6.heap.size v6 W) => Lzhx0_6 W (bel_step hc6 h)
    have Lzhx1_7 := fun W (h : Below v6.heap.size v6 W) => Lzhx1_6 W (bel_step hc6 h)
    have Lzhx2_7 := fun W (h : Below v6.heap.size v6 W) => Lzhx2_6 W (bel_step hc6 h)
    have Lzhx3_7 := fun W (h : Below v6.heap.size v6 W) => Lzhx3_6 W (bel_step hc6 h)
    have Lzhy0_7 := fun W (h : Below v6.heap.size v6 W) => Lzhy0_6 W (bel_step hc6 h)
    have Lzhy1_7 := fun W (h : Below v6.heap.size v6 W) => Lzhy1_6 W (bel_step hc6 h)
    have Lzhy2_7 := fun W (h : Below v6.heap.size v6 W) => Lzhy2_6 W (bel_step hc6 h)
    have Lzhy3_7 := fun W (h : Below v6.heap.size v6 W) => Lzhy3_6 W (bel_step hc6 h)
    have Lzhz0_7 := fun W (h : Below v6.heap.size v6 W) => Lzhz0_6 W (bel_step hc6 h)
    have Lzhz1_7 := fun W (h : Below v6.heap.size v6 W) => Lzhz1_6 W (bel_step hc6 h)
    have Lzhz2_7 := fun W (h : Below v6.heap.size v6 W) => Lzhz2_6 W (bel_step hc6 h)
    have Lzhz3_7 := fun W (h : Below v6.heap.size v6 W) => Lzhz3_6 W (bel_step hc6 h)
    clear Lzha0_6 Lzha1_6 Lzha2_6 Lzha3_6 Lzhb0_6 Lzhb1_6 Lzhb2_6 Lzhb3_6 Lzhn0_6 Lzhn1_6 Lzhn2_6 Lzhn3_6 Lzhx0_6 Lzhx1_6 Lzhx2_6 Lzhx3_6 Lzhy0_6 Lzhy1_6 Lzhy2_6 Lzhy3_6 Lzhz0_6 Lzhz1_6 Lzhz2_6 Lzhz3_6
    iterate 4 (refine wpSeq_take (o := ⟨_, _, _, _, _, _⟩) (v := ?_) rfl rfl ?_ ?_; rotate_left; (focus (intro W hW; go_simp; first | done | with_reducible rfl)); simp only [Act.put, List.setIfInBounds_toArray, List.set_cons_zero, List.set_cons_succ])
    have D41 := Lib.hid (Nodes25_any qand (fun _ => by unfold nodK; decide +kernel) _ _ _ ZN_194.out)
    try simp only [qV, lfV] at D41
    rw [no5] at D41
    refine wpSeq_exec (o := ⟨_, _, _, _, _, _⟩) rfl rfl (fun K hK => ?_)
    go_simp
    (with_reducible refine (D41.out).mono ?_)
    rintro e v7 ⟨rfl, hc7⟩
    go_wp2_with fail
    refine hK _ _ hc7 ?_
    clear hK K
    have HA_207 := Lib.hid (HA_191.out.below hc7 HA_191.out.lt)
    have HB_208 := Lib.hid (HB_192.out.below hc7 HB_192.out.lt)
    have HN_209 := Lib.hid (HN_193.out.below hc7 HN_193.out.lt)
    have ZN_210 := Lib.hid (ZN_194.out.bel hc7)
    have BB_211 := Lib.hid (bel_step BB_195.out hc7)
    have T1_212 := Lib.hid (T1_196.out.bel hc7)
    have Z1_213 := Lib.hid (Z1_197.out.bel hc7)
    have HX_214 := Lib.hid (HX_198.out.below hc7 HX_198.out.lt)
    have HY_215 := Lib.hid (HY_199.out.below hc7 HY_199.out.lt)
    have ZY_216 := Lib.hid (ZY_200.out.bel hc7)
    have Z3_217 := Lib.hid (Z3_201.out.bel hc7)
    have HZ_218 := Lib.hid (HZ_202.out.below hc7 HZ_202.out.lt)
    have HW_219 := Lib.hid (HW_203.out.below hc7 HW_203.out.lt)
    have TA_220 := Lib.hid (TA_204.out.bel hc7)
    have TB_221 := Lib.hid (TB_205.out.bel hc7)
    have QO_222 := Lib.hid (QO_206.out.bel hc7)
    clear HA_191 HB_192 HN_193 ZN_194 BB_195 T1_196 Z1_197 HX_198 HY_199 ZY_200 Z3_201 HZ_202 HW_203 TA_204 TB_205 QO_206
    have Lzha0_8 := fun W (h : Below v7.heap.size v7 W) => Lzha0_7 W (bel_step hc7 h)
    have Lzha1_8 := fun W (h : Below v7.heap.size v7 W) => Lzha1_7 W (bel_step hc7 h)
    have Lzha2_8 := fun W (h : Below v7.heap.size v7 W) => Lzha2_7 W (bel_step hc7 h)
    have Lzha3_8 := fun W (h : Below v7.heap.size v7 W) => Lzha3_7 W (bel_step hc7 h)
    have Lzhb0_8 := fun W (h : Below v7.heap.size v7 W) => Lzhb0_7 W (bel_step hc7 h)
    have Lzhb1_8 := fun W (h : Below v7.heap.size v7 W) => Lzhb1_7 W (bel_step hc7 h)
    have Lzhb2_8 := fun W (h : Below v7.heap.size v7 W) => Lzhb2_7 W (bel_step hc7 h)
    have Lzhb3_8 := fun W (h : Below v7.heap.size v7 W) => Lzhb3_7 W (bel_step hc7 h)
    have Lzhn0_8 := fun W (h : Below v7.heap.size v7 W) => Lzhn0_7 W (bel_step hc7 h)
    have Lzhn1_8 := fun W (h : Below v7.heap.size v7 W) => Lzhn1_7 W (bel_step hc7 h)
    have Lzhn2_8 := fun W (h : Below v7.heap.size v7 W) => Lzhn2_7 W (bel_step hc7 h)
    have Lzhn3_8 := fun W (h : Below v7.heap.size v7 W) => Lzhn3_7 W (bel_step hc7 h)
    have Lzhx0_8 := fun W (h : Below v7.heap.size v7 W) => Lzhx0_7 W (bel_step hc7 h)
    have Lzhx1_8 := fun W (h : Below v7.heap.size v7 W) => Lzhx1_7 W (bel_step hc7 h)
    have Lzhx2_8 := fun W (h : Below v7.heap.size v7 W) => Lzhx2_7 W (bel_step hc7 h)
    have Lzhx3_8 := fun W (h : Below v7.heap.size v7 W) => Lzhx3_7 W (bel_step hc7 h)
    have Lzhy0_8 := fun W (h : Below v7.heap.size v7 W) => Lzhy0_7 W (bel_step hc7 h)
    have Lzhy1_8 := fun W (h : Below v7.heap.size v7 W) => Lzhy1_7 W (bel_step hc7 h)
    have Lzhy2_8 := fun W (h : Below v7.heap.size v7 W) => Lzhy2_7 W (bel_step hc7 h)
    have Lzhy3_8 := fun W (h : Below v7.heap.size v7 W) => Lzhy3_7 W (bel_step hc7 h)
    have Lzhz0_8 := fun W (h : Below v7.heap.size v7 W) => Lzhz0_7 W (bel_step hc7 h)
    have Lzhz1_8 := fun W (h : Below v7.heap.size v7 W) => Lzhz1_7 W (bel_step hc7 h)
    have Lzhz2_8 := fun W (h : Below v7.heap.size v7 W) => Lzhz2_7 W (bel_step hc7 h)
    have Lzhz3_8 := fun W (h : Below v7.heap.size v7 W) => Lzhz3_7 W (bel_step hc7 h)
    clear Lzha0_7 Lzha1_7 Lzha2_7 Lzha3_7 Lzhb0_7 Lzhb1_7 Lzhb2_7 Lzhb3_7 Lzhn0_7 Lzhn1_7 Lzhn2_7 Lzhn3_7 Lzhx0_7 Lzhx1_7 Lzhx2_7 Lzhx3_7 Lzhy0_7 Lzhy1_7 Lzhy2_7 Lzhy3_7 Lzhz0_7 Lzhz1_7 Lzhz2_7 Lzhz3_7
    iterate 4 (refine wpSeq_take (o := ⟨_, _, _, _, _, _⟩) (v := ?_) rfl rfl ?_ ?_; rotate_left; (focus (intro W hW; go_simp; first | done | with_reducible rfl)); simp only [Act.put, List.setIfInBounds_toArray, List.set_cons_zero, List.set_cons_succ])
    have D46 := Lib.hid (Depth25_any qand _ _ _ trivial ZN_210.out)
    try simp only [qV, lfV] at D46
    rw [de5] at D46
    refine wpSeq_exec (o := ⟨_, _, _, _, _, _⟩) rfl rfl (fun K hK => ?_)
    go_simp
    (with_reducible refine (D46.out).mono ?_)
    rintro e v8 ⟨rfl, hc8⟩
    go_wp2_with fail
    refine hK _ _ hc8 ?_
    clear hK K
    have HA_223 := Lib.hid (HA_207.out.below hc8 HA_207.out.lt)
    have HB_224 := Lib.hid (HB_208.out.below hc8 HB_208.out.lt)
    have HN_225 := Lib.hid (HN_209.out.below hc8 HN_209.out.lt)
    have ZN_226 := Lib.hid (ZN_210.out.bel hc8)
    have BB_227 := Lib.hid (bel_step BB_211.out hc8)
    have T1_228 := Lib.hid (T1_212.out.bel hc8)
    have Z1_229 := Lib.hid (Z1_213.out.bel hc8)
    have HX_230 := Lib.hid (HX_214.out.below hc8 HX_214.out.lt)
    have HY_231 := Lib.hid (HY_215.out.below hc8 HY_215.out.lt)
    have ZY_232 := Lib.hid (ZY_216.out.bel hc8)
    have Z3_233 := Lib.hid (Z3_217.out.bel hc8)
    have HZ_234 := Lib.hid (HZ_218.out.below hc8 HZ_218.out.lt)
    have HW_235 := Lib.hid (HW_219.out.below hc8 HW_219.out.lt)
    have TA_236 := Lib.hid (TA_220.out.bel hc8)
    have TB_237 := Lib.hid (TB_221.out.bel hc8)
    have QO_238 := Lib.hid (QO_222.out.bel hc8)
    clear HA_207 HB_208 HN_209 ZN_210 BB_211 T1_212 Z1_213 HX_214 HY_215 ZY_216 Z3_217 HZ_218 HW_219 TA_220 TB_221 QO_222
    have Lzha0_9 := fun W (h : Below v8.heap.size v8 W) => Lzha0_8 W (bel_step hc8 h)
    have Lzha1_9 := fun W (h : Below v8.heap.size v8 W) => Lzha1_8 W (bel_step hc8 h)
    have Lzha2_9 := fun W (h : Below v8.heap.size v8 W) => Lzha2_8 W (bel_step hc8 h)
    have Lzha3_9 := fun W (h : Below v8.heap.size v8 W) => Lzha3_8 W (bel_step hc8 h)
    have Lzhb0_9 := fun W (h : Below v8.heap.size v8 W) => Lzhb0_8 W (bel_step hc8 h)
    have Lzhb1_9 := fun W (h : Below v8.heap.size v8 W) => Lzhb1_8 W (bel_step hc8 h)
    have Lzhb2_9 := fun W (h : Below v8.heap.size v8 W) => Lzhb2_8 W (bel_step hc8 h)
    have Lzhb3_9 := fun W (h : Below v8.heap.size v8 W) => Lzhb3_8 W (bel_step hc8 h)
    have Lzhn0_9 := fun W (h : Below v8.heap.size v8 W) => Lzhn0_8 W (bel_step hc8 h)
    have Lzhn1_9 := fun W (h : Below v8.heap.size v8 W) => Lzhn1_8 W (bel_step hc8 h)
    have Lzhn2_9 := fun W (h : Below v8.heap.size v8 W) => Lzhn2_8 W (bel_step hc8 h)
    have Lzhn3_9 := fun W (h : Below v8.heap.size v8 W) => Lzhn3_8 W (bel_step hc8 h)
    have Lzhx0_9 := fun W (h : Below v8.heap.size v8 W) => Lzhx0_8 W (bel_step hc8 h)
    have Lzhx1_9 := fun W (h : Below v8.heap.size v8 W) => Lzhx1_8 W (bel_step hc8 h)
    have Lzhx2_9 := fun W (h : Below v8.heap.size v8 W) => Lzhx2_8 W (bel_step hc8 h)
    have Lzhx3_9 := fun W (h : Below v8.heap.size v8 W) => Lzhx3_8 W (bel_step hc8 h)
    have Lzhy0_9 := fun W (h : Below v8.heap.size v8 W) => Lzhy0_8 W (bel_step hc8 h)
    have Lzhy1_9 := fun W (h : Below v8.heap.size v8 W) => Lzhy1_8 W (bel_step hc8 h)
    have Lzhy2_9 := fun W (h : Below v8.heap.size v8 W) => Lzhy2_8 W (bel_step hc8 h)
    have Lzhy3_9 := fun W (h : Below v8.heap.size v8 W) => Lzhy3_8 W (bel_step hc8 h)
    have Lzhz0_9 := fun W (h : Below v8.heap.size v8 W) => Lzhz0_8 W (bel_step hc8 h)
    have Lzhz1_9 := fun W (h : Below v8.heap.size v8 W) => Lzhz1_8 W (bel_step hc8 h)
    have Lzhz2_9 := fun W (h : Below v8.heap.size v8 W) => Lzhz2_8 W (bel_step hc8 h)
    have Lzhz3_9 := fun W (h : Below v8.heap.size v8 W) => Lzhz3_8 W (bel_step hc8 h)
    clear Lzha0_8 Lzha1_8 Lzha2_8 Lzha3_8 Lzhb0_8 Lzhb1_8 Lzhb2_8 Lzhb3_8 Lzhn0_8 Lzhn1_8 Lzhn2_8 Lzhn3_8 Lzhx0_8 Lzhx1_8 Lzhx2_8 Lzhx3_8 Lzhy0_8 Lzhy1_8 Lzhy2_8 Lzhy3_8 Lzhz0_8 Lzhz1_8 Lzhz2_8 Lzhz3_8
    iterate 5 (refine wpSeq_take (o := ⟨_, _, _, _, _, _⟩) (v := ?_) rfl rfl ?_ ?_; rotate_left; (focus (intro W hW; go_simp; first | done | with_reducible rfl)); simp only [Act.put, List.setIfInBounds_toArray, List.set_cons_zero, List.set_cons_succ])
    have D52 := Lib.hid (Same25_any X3 qand _ _ _ _ _ Z3_233.out ZN_226.out)
    try simp only [qV, lfV] at D52
    rw [H3.out] at D52
    refine wpSeq_exec (o := ⟨_, _, _, _, _, _⟩) rfl rfl (fun K hK => ?_)
    go_simp
    (with_reducible refine (D52.out).mono ?_)
    rintro e v9 ⟨rfl, hc9⟩
    go_wp2_with fail
    refine hK _ _ hc9 ?_
    clear hK K
    have HA_239 := Lib.hid (HA_223.out.below hc9 HA_223.out.lt)
    have HB_240 := Lib.hid (HB_224.out.below hc9 HB_224.out.lt)
    have HN_241 := Lib.hid (HN_225.out.below hc9 HN_225.out.lt)
    have ZN_242 := Lib.hid (ZN_226.out.bel hc9)
    have BB_243 := Lib.hid (bel_step BB_227.out hc9)
    have T1_244 := Lib.hid (T1_228.out.bel hc9)
    have Z1_245 := Lib.hid (Z1_229.out.bel hc9)
    have HX_246 := Lib.hid (HX_230.out.below hc9 HX_230.out.lt)
    have HY_247 := Lib.hid (HY_231.out.below hc9 HY_231.out.lt)
    have ZY_248 := Lib.hid (ZY_232.out.bel hc9)
    have Z3_249 := Lib.hid (Z3_233.out.bel hc9)
    have HZ_250 := Lib.hid (HZ_234.out.below hc9 HZ_234.out.lt)
    have HW_251 := Lib.hid (HW_235.out.below hc9 HW_235.out.lt)
    have TA_252 := Lib.hid (TA_236.out.bel hc9)
    have TB_253 := Lib.hid (TB_237.out.bel hc9)
    have QO_254 := Lib.hid (QO_238.out.bel hc9)
    clear HA_223 HB_224 HN_225 ZN_226 BB_227 T1_228 Z1_229 HX_230 HY_231 ZY_232 Z3_233 HZ_234 HW_235 TA_236 TB_237 QO_238
    have Lzha0_10 := fun W (h : Below v9.heap.size v9 W) => Lzha0_9 W (bel_step hc9 h)
    have Lzha1_10 := fun W (h : Below v9.heap.size v9 W) => Lzha1_9 W (bel_step hc9 h)
    have Lzha2_10 := fun W (h : Below v9.heap.size v9 W) => Lzha2_9 W (bel_step hc9 h)
    have Lzha3_10 := fun W (h : Below v9.heap.size v9 W) => Lzha3_9 W (bel_step hc9 h)
    have Lzhb0_10 := fun W (h : Below v9.heap.size v9 W) => Lzhb0_9 W (bel_step hc9 h)
    have Lzhb1_10 := fun W (h : Below v9.heap.size v9 W) => Lzhb1_9 W (bel_step hc9 h)
    have Lzhb2_10 := fun W (h : Below v9.heap.size v9 W) => Lzhb2_9 W (bel_step hc9 h)
    have Lzhb3_10 := fun W (h : Below v9.heap.size v9 W) => Lzhb3_9 W (bel_step hc9 h)
    have Lzhn0_10 := fun W (h : Below v9.heap.size v9 W) => Lzhn0_9 W (bel_step hc9 h)
    have Lzhn1_10 := fun W (h : Below v9.heap.size v9 W) => Lzhn1_9 W (bel_step hc9 h)
    have Lzhn2_10 := fun W (h : Below v9.heap.size v9 W) => Lzhn2_9 W (bel_step hc9 h)
    have Lzhn3_10 := fun W (h : Below v9.heap.size v9 W) => Lzhn3_9 W (bel_step hc9 h)
    have Lzhx0_10 := fun W (h : Below v9.heap.size v9 W) => Lzhx0_9 W (bel_step hc9 h)
    have Lzhx1_10 := fun W (h : Below v9.heap.size v9 W) => Lzhx1_9 W (bel_step hc9 h)
    have Lzhx2_10 := fun W (h : Below v9.heap.size v9 W) => Lzhx2_9 W (bel_step hc9 h)
    have Lzhx3_10 := fun W (h : Below v9.heap.size v9 W) => Lzhx3_9 W (bel_step hc9 h)
    have Lzhy0_10 := fun W (h : Below v9.heap.size v9 W) => Lzhy0_9 W (bel_step hc9 h)
    have Lzhy1_10 := fun W (h : Below v9.heap.size v9 W) => Lzhy1_9 W (bel_step hc9 h)
    have Lzhy2_10 := fun W (h : Below v9.heap.size v9 W) => Lzhy2_9 W (bel_step hc9 h)
    have Lzhy3_10 := fun W (h : Below v9.heap.size v9 W) => Lzhy3_9 W (bel_step hc9 h)
    have Lzhz0_10 := fun W (h : Below v9.heap.size v9 W) => Lzhz0_9 W (bel_step hc9 h)
    have Lzhz1_10 := fun W (h : Below v9.heap.size v9 W) => Lzhz1_9 W (bel_step hc9 h)
    have Lzhz2_10 := fun W (h : Below v9.heap.size v9 W) => Lzhz2_9 W (bel_step hc9 h)
    have Lzhz3_10 := fun W (h : Below v9.heap.size v9 W) => Lzhz3_9 W (bel_step hc9 h)
    clear Lzha0_9 Lzha1_9 Lzha2_9 Lzha3_9 Lzhb0_9 Lzhb1_9 Lzhb2_9 Lzhb3_9 Lzhn0_9 Lzhn1_9 Lzhn2_9 Lzhn3_9 Lzhx0_9 Lzhx1_9 Lzhx2_9 Lzhx3_9 Lzhy0_9 Lzhy1_9 Lzhy2_9 Lzhy3_9 Lzhz0_9 Lzhz1_9 Lzhz2_9 Lzhz3_9
    iterate 4 (refine wpSeq_take (o := ⟨_, _, _, _, _, _⟩) (v := ?_) rfl rfl ?_ ?_; rotate_left; (focus (intro W hW; go_simp; first | done | with_reducible rfl)); simp only [Act.put, List.setIfInBounds_toArray, List.set_cons_zero, List.set_cons_succ])
    have D57 := Lib.hid (Same25_any X1 qand _ _ _ _ _ Z1_245.out ZN_242.out)
    try simp only [qV, lfV] at D57
    rw [H4.out] at D57
    refine wpSeq_exec (o := ⟨_, _, _, _, _, _⟩) rfl rfl (fun K hK => ?_)
    go_simp
    (with_reducible refine (D57.out).mono ?_)
    rintro e v10 ⟨rfl, hc10⟩
    go_wp2_with fail
    refine hK _ _ hc10 ?_
    clear hK K
    have HA_255 := Lib.hid (HA_239.out.below hc10 HA_239.out.lt)
    have HB_256 := Lib.hid (HB_240.out.below hc10 HB_240.out.lt)
    have HN_257 := Lib.hid (HN_241.out.below hc10 HN_241.out.lt)
    have ZN_258 := Lib.hid (ZN_242.out.bel hc10)
    have BB_259 := Lib.hid (bel_step BB_243.out hc10)
    have T1_260 := Lib.hid (T1_244.out.bel hc10)
    have Z1_261 := Lib.hid (Z1_245.out.bel hc10)
    have HX_262 := Lib.hid (HX_246.out.below hc10 HX_246.out.lt)
    have HY_263 := Lib.hid (HY_247.out.below hc10 HY_247.out.lt)
    have ZY_264 := Lib.hid (ZY_248.out.bel hc10)
    have Z3_265 := Lib.hid (Z3_249.out.bel hc10)
    have HZ_266 := Lib.hid (HZ_250.out.below hc10 HZ_250.out.lt)
    have HW_267 := Lib.hid (HW_251.out.below hc10 HW_251.out.lt)
    have TA_268 := Lib.hid (TA_252.out.bel hc10)
    have TB_269 := Lib.hid (TB_253.out.bel hc10)
    have QO_270 := Lib.hid (QO_254.out.bel hc10)
    clear HA_239 HB_240 HN_241 ZN_242 BB_243 T1_244 Z1_245 HX_246 HY_247 ZY_248 Z3_249 HZ_250 HW_251 TA_252 TB_253 QO_254
    have Lzha0_11 := fun W (h : Below v10.heap.size v10 W) => Lzha0_10 W (bel_step hc10 h)
    have Lzha1_11 := fun W (h : Below v10.heap.size v10 W) => Lzha1_10 W (bel_step hc10 h)
    have Lzha2_11 := fun W (h : Below v10.heap.size v10 W) => Lzha2_10 W (bel_step hc10 h)
    have Lzha3_11 := fun W (h : Below v10.heap.size v10 W) => Lzha3_10 W (bel_step hc10 h)
    have Lzhb0_11 := fun W (h : Below v10.heap.size v10 W) => Lzhb0_10 W (bel_step hc10 h)
    have Lzhb1_11 := fun W (h : Below v10.heap.size v10 W) => Lzhb1_10 W (bel_step hc10 h)
    have Lzhb2_11 := fun W (h : Below v10.heap.size v10 W) => Lzhb2_10 W (bel_step hc10 h)
    have Lzhb3_11 := fun W (h : Below v10.heap.size v10 W) => Lzhb3_10 W (bel_step hc10 h)
    have Lzhn0_11 := fun W (h : Below v10.heap.size v10 W) => Lzhn0_10 W (bel_step hc10 h)
    have Lzhn1_11 := fun W (h : Below v10.heap.size v10 W) => Lzhn1_10 W (bel_step hc10 h)
    have Lzhn2_11 := fun W (h : Below v10.heap.size v10 W) => Lzhn2_10 W (bel_step hc10 h)
    have Lzhn3_11 := fun W (h : Below v10.heap.size v10 W) => Lzhn3_10 W (bel_step hc10 h)
    have Lzhx0_11 := fun W (h : Below v10.heap.size v10 W) => Lzhx0_10 W (bel_step hc10 h)
    have Lzhx1_11 := fun W (h : Below v10.heap.size v10 W) => Lzhx1_10 W (bel_step hc10 h)
    have Lzhx2_11 := fun W (h : Below v10.heap.size v10 W) => Lzhx2_10 W (bel_step hc10 h)
    have Lzhx3_11 := fun W (h : Below v10.heap.size v10 W) => Lzhx3_10 W (bel_step hc10 h)
    have Lzhy0_11 := fun W (h : Below v10.heap.size v10 W) => Lzhy0_10 W (bel_step hc10 h)
    have Lzhy1_11 := fun W (h : Below v10.heap.size v10 W) => Lzhy1_10 W (bel_step hc10 h)
    have Lzhy2_11 := fun W (h : Below v10.heap.size v10 W) => Lzhy2_10 W (bel_step hc10 h)
    have Lzhy3_11 := fun W (h : Below v10.heap.size v10 W) => Lzhy3_10 W (bel_step hc10 h)
    have Lzhz0_11 := fun W (h : Below v10.heap.size v10 W) => Lzhz0_10 W (bel_step hc10 h)
    have Lzhz1_11 := fun W (h : Below v10.heap.size v10 W) => Lzhz1_10 W (bel_step hc10 h)
    have Lzhz2_11 := fun W (h : Below v10.heap.size v10 W) => Lzhz2_10 W (bel_step hc10 h)
    have Lzhz3_11 := fun W (h : Below v10.heap.size v10 W) => Lzhz3_10 W (bel_step hc10 h)
    clear Lzha0_10 Lzha1_10 Lzha2_10 Lzha3_10 Lzhb0_10 Lzhb1_10 Lzhb2_10 Lzhb3_10 Lzhn0_10 Lzhn1_10 Lzhn2_10 Lzhn3_10 Lzhx0_10 Lzhx1_10 Lzhx2_10 Lzhx3_10 Lzhy0_10 Lzhy1_10 Lzhy2_10 Lzhy3_10 Lzhz0_10 Lzhz1_10 Lzhz2_10 Lzhz3_10
    iterate 3 (refine wpSeq_take (o := ⟨_, _, _, _, _, _⟩) (v := ?_) rfl rfl ?_ ?_; rotate_left; (focus (intro W hW; go_simp; first | done | with_reducible rfl)); simp only [Act.put, List.setIfInBounds_toArray, List.set_cons_zero, List.set_cons_succ])
    refine wpSeq_nil ?_
    go_wp2_with fail
    go_ret
    exact ⟨rfl, BB_259.out⟩
end Go.Proofs.Ytjnhhdkphcbflaa
