/-
  Queries' texts and what they lean on, part 19: only what the claims need.
-/
import Derived.Test.YtjjlmkleidbmhaaGreatDoorZ18
import Derived.Test.YtjjlmkleidbmhaaGreatDoorZ13
import Derived.Test.YtjjlmkleidbmhaaGreatDoorZ07
section
namespace Go.Proofs.YtjjlmkleidbmhaaGreatDoor
open Go.ChangeShapes Go.WideShapes Go.ChangeAt Go.Deep
open Go.RowKit Go.Nst
set_option maxRecDepth 100000
set_option linter.unusedVariables false
set_option linter.unusedSimpArgs false

/-- a text handed back, nothing old changed -/
def RetTx26 (w : World) (t : List UInt8) (e : Ending) (w' : World) : Prop := e = .returned (.string ⟨t.toArray⟩) ∧ Below w.heap.size w w'
def showP (q : Qy) : Prop := ∀ (vs : Array Value) (w : World) (S : Nat → Prop), plaQ q = true → nodQ q ≤ 64 → QpW w → QAt w S vs q → Calls Tryz.prog 25 #[.agg vs] w (RetTx26 w (shwD q))
theorem paren_app (t : List UInt8) : (ByteArray.mk (#[40] : Array UInt8)) ++ (ByteArray.mk t.toArray) ++ (ByteArray.mk (#[41] : Array UInt8)) = ⟨(40 :: (t ++ [41])).toArray⟩ := by
  have h1 := ba_app26 [40] t
  have h2 := ba_app26 ([40] ++ t) [41]
  rw [← h1] at h2
  exact h2
set_option maxHeartbeats 1000000 in
theorem kid26_any (k : Qy) (hsh : showP k) (i : Int) (vs : Array Value) (w : World) (S : Nat → Prop) (hp : plaQ k = true) (hn : nodQ k ≤ 64) (hW : QpW w) (hq : QAt w S vs k) :
    Calls Tryz.prog 40 #[.agg vs, .int .i64 i] w (RetTx26 w (shwK leafD i k)) := by
  have hl := shown_len k hp
  obtain ⟨B, c, rfl, ho, hn0, hs, hc1, hc2, hk⟩ := hq.open_
  simp only [qV] at hq ⊢
  have b0 := bel_alloc (Below.refl w.heap.size w) (.cells #[.int .i64 k.op, .int .i64 k.n, .string ⟨k.s.toArray⟩, .slice B k.kids.length c] 25)
  have HC := Lib.hid (hsh _ _ S hp hn (hW.keep b0) (hq.bel b0))
  have B0 := Lib.hid b0
  have HV : Hid (shwK leafD i k = if k.op = 4 ∨ (k.op = 3 ∧ i ≠ 4) then 40 :: (shwD k ++ [41]) else shwD k) := Lib.hid rfl
  obtain ⟨o, ho'⟩ : ∃ o, o = k.op := ⟨_, rfl⟩
  generalize shwK leafD i k = r at *
  generalize shwD k = t at *
  have hz : (ByteArray.mk t.toArray).size = t.length := size_of t
  have hl2 : t.length ≤ 20000 := by omega
  rw [← ho'] at HC HV B0 ⊢
  generalize k.n = kn at *
  generalize k.s = ks at *
  generalize k.kids.length = kk at *
  clear hsh hp hn hW hq b0 hl hn0 hs hc1 hc2 hk ho ho'
  by_cases h4 : o = 4
  · subst h4
    have HR : Hid (r = 40 :: (t ++ [41])) := Lib.hid (by rw [HV.out, if_pos (.inl rfl)])
    clear HV
    go_enter Tryz.func40, Tryz.ntmps40
    go_wp2_with fail
    (with_reducible refine (HC.out).mono ?_)
    rintro _ w1 ⟨rfl, hb1⟩
    go_wp2_with fail
    go_ret
    exact ⟨by rw [HR.out, ← paren_app]; rfl, bel_step B0.out hb1⟩
  have d4 : (o == 4) = false := by simpa using h4
  by_cases h3 : o = 3
  · subst h3
    by_cases hi : i = 4
    · subst hi
      have HR : Hid (r = t) := Lib.hid (by rw [HV.out, if_neg (by rintro (h | ⟨_, h⟩); exact h4 h; exact h rfl)])
      clear HV
      go_enter Tryz.func40, Tryz.ntmps40
      go_wp2_with fail
      (with_reducible refine (HC.out).mono ?_)
      rintro _ w1 ⟨rfl, hb1⟩
      go_wp2_with fail
      go_ret
      exact ⟨by rw [HR.out]; rfl, bel_step B0.out hb1⟩
    · have di : (i == 4) = false := by simpa using hi
      have HR : Hid (r = 40 :: (t ++ [41])) := Lib.hid (by rw [HV.out, if_pos (.inr ⟨rfl, hi⟩)])
      clear HV hi
      go_enter Tryz.func40, Tryz.ntmps40
      go_wp2_with fail
      (with_reducible refine (HC.out).mono ?_)
      rintro _ w1 ⟨rfl, hb1⟩
      go_wp2_with fail
      go_ret
      exact ⟨by rw [HR.out, ← paren_app]; rfl, bel_step B0.out hb1⟩
  · have d3 : (o == 3) = false := by simpa using h3
    have HR : Hid (r = t) := Lib.hid (by rw [HV.out, if_neg (by rintro (h | ⟨h, _⟩); exact h4 h; exact h3 h)])
    clear HV h3 h4
    go_enter Tryz.func40, Tryz.ntmps40
    go_wp2_with fail
    (with_reducible refine (HC.out).mono ?_)
    rintro _ w1 ⟨rfl, hb1⟩
    go_wp2_with fail
    go_ret
    exact ⟨by rw [HR.out]; rfl, bel_step B0.out hb1⟩
/-- strings.Join of a row of texts -/
theorem join_row (l : List (List UInt8)) (sep : List UInt8) (A : Option Addr) (n c : Nat) (w : World) (base : Nat) (hO : Os w base A n c l) (hn : 1 ≤ n) (hl : (Lib.join l sep).length ≤ 1000000) (hn2 : n ≤ 1000) :
    Calls Tryz.prog 41 #[.slice A n c, .string ⟨sep.toArray⟩] w (RetTx26 w (Lib.join l sep)) := by
  have hS := hO.ss
  have hlen := hS.len
  obtain ⟨x, b, off, rfl, -, hb, -⟩ := hS.at (show 0 < n by omega)
  have hcap := own_cap hO
  have h := Tryz.strings_Join b off c (l.map fun x => ⟨x.toArray⟩) ⟨sep.toArray⟩ w (fun j x hj => by
    have hj' : j < n := by
      have := (List.getElem?_eq_some_iff.1 hj).1
      rw [List.length_map] at this
      omega
    obtain ⟨y, b', off', e, hg, _, hcell⟩ := hS.at hj'
    injection e with e
    injection e with e1 e2
    subst e1
    subst e2
    rw [List.getElem?_map, hg.out] at hj
    injection hj with hj
    rw [hcell, ← hj]) hb (by rw [List.length_map]; omega) (by rw [List.length_map]; omega) (by
      rw [List.map_map]
      show (Lib.join (l.map fun x => x) sep).length ≤ _
      rw [List.map_id']
      omega)
  rw [List.length_map, hlen, List.map_map, show ((fun (b : ByteArray) => b.data.toList) ∘ fun (x : List UInt8) => (⟨x.toArray⟩ : ByteArray)) = fun x => x from rfl, List.map_id'] at h
  exact h
theorem shwL_join (sp : List UInt8) (i : Int) : ∀ ks : List Qy, shwL leafD sp i ks = ((ks.map (shwK leafD i)).map (sp ++ ·)).flatten
  | [] => by simp [shwL]
  | k :: ks => by rw [shwL_cons, shwL_join sp i ks]; simp
theorem join_shw (sp : List UInt8) (i : Int) {ks : List Qy} (h : ks ≠ []) : Lib.join (ks.map (shwK leafD i)) sp = (shwL leafD sp i ks).drop sp.length := by
  match ks, h with
  | k :: ks, _ =>
    rw [List.map_cons, Lib.join_cons, shwL_cons, shwL_join, List.append_assoc, List.drop_left]
    rfl
theorem not_text (n : Int) (s : List UInt8) {l : List Qy} {x : List UInt8} (h : l.length = 1) (hx : (l.map (shwK leafD 5))[0]? = some x) : shwD ⟨5, n, s, l⟩ = [110, 111, 116, 32] ++ x := by
  match l, h with
  | [k], _ =>
    simp only [List.map_cons, List.map_nil, List.getElem?_cons_zero, Option.some.injEq] at hx
    subst hx
    simp only [shwD, shwQ]
    rw [if_pos (by trivial), shwL_cons]
    simp [shwL]
set_option maxHeartbeats 4000000 in
theorem show26_any (q : Qy) : showP q := by
  refine Qy.ind (p := showP) ?_ q
  intro o n s l ih vs w S hp hnd hW hq
  obtain ⟨h1, h2⟩ := pla_parts hp
  obtain ⟨k1, k2, k3⟩ := one_kids h1
  have hm := plaL_mem h2
  have hlen := shown_len _ hp
  obtain ⟨A, c, rfl, ho, hn, hs, hc1, hc2, hk⟩ := hq.open_
  simp only [Qy.op, Qy.n, Qy.s, Qy.kids, qV] at *
  have B0 := bel_alloc (Below.refl w.heap.size w) (.cells #[.int .i64 o, .int .i64 n, .string ⟨s.toArray⟩, .slice A l.length c] 25)
  have X0 := Lib.hid (Blk.new w 25 #[.int .i64 o, .int .i64 n, .string ⟨s.toArray⟩, .slice A l.length c])
  have hnl : nodL l 0 ≤ 63 := by
    simp only [nodQ] at hnd
    rw [nodL_add] at hnd
    omega
  have hll : l.length ≤ 63 := by have := nodL_length l 0; omega
  have HK := Lib.hid (fun (k : Qy) (hmem : k ∈ l) (vs : Array Value) (W : World) (S : Nat → Prop) (hW : QpW W) (hq : QAt W S vs k) => kid26_any k (ih k hmem) o vs W S (hm k hmem) (by have := nodL_mem l 0 k hmem; omega) hW hq)
  have HW0 := Lib.hid (hW.keep B0)
  have HKS := Lib.hid (hk.bel B0)
  have HB0 := Lib.hid B0
  have hlen2 : (shwD ⟨o, n, s, l⟩).length ≤ 20000 := by omega
  clear ih hq hm h2 hp hnd hW B0 hk hlen
  show Calls _ _ _ _ (RetTx26 w (shwD ⟨o, n, s, l⟩))
  go_enter Tryz.func25, Tryz.ntmps25
  go_wp2_with fail
  go_loopw [3, 9] (fun v i wr => ∃ (A2 : Option Addr) (k c2 : Nat), v = .slice A2 k c2 ∧ i = .int .i64 (k : Int) ∧ k ≤ l.length ∧ Hid (Os wr (w.heap.size + 1) A2 k c2 ((l.take k).map (shwK leafD o))) ∧ Hid (Below (w.heap.size + 1) (w.alloc (.cells #[.int .i64 o, .int .i64 n, .string ⟨s.toArray⟩, .slice A l.length c] 25)) wr)) (fun _ i _ => l.length - (intOf i).toNat)
  case atStart => exact ⟨none, 0, 0, rfl, rfl, by omega, Lib.hid (World.ownsRow_nil _ _ _ _), Lib.hid (Below.refl _ _)⟩
  case round =>
    obtain ⟨A2, k, c2, rfl, rfl, hkl, HO, HB⟩ := hrel
    have hbs := HB.out.size
    simp at hbs
    have HXr := Lib.hid (X0.out.below HB.out (by omega))
    obtain ⟨z0, z1, z2, z3, z4, z5⟩ := res_facts HXr.out
    have hsz : (w.alloc (.cells #[.int .i64 o, .int .i64 n, .string ⟨s.toArray⟩, .slice A l.length c] 25)).heap.size = w.heap.size + 1 := by simp
    have hkw := HKS.out.bel (hsz ▸ HB.out)
    by_cases hlt : k < l.length
    · obtain ⟨q, B, c', b, off, hg, rfl, -, hbs2, hq', g1, g2, g3, g4, g5, f0, f1, f2, f3⟩ := hkw.at hlt
      have hmem : q ∈ l := List.mem_of_getElem? hg.out
      have HSN : Hid ((l.take (k + 1)).map (shwK leafD o) = (l.take k).map (shwK leafD o) ++ [shwK leafD o q]) := Lib.hid (by rw [List.take_add_one, hg.out]; simp)
      have bq := bel_alloc (Below.refl wr.heap.size wr) (.cells (qV q.op q.n q.s B q.kids.length c') 25)
      have HC := Lib.hid (HK.out q hmem _ _ S (HW0.out.keep (bel_step (hsz ▸ HB.out) bq)) (hq'.out.bel bq))
      have HBQ := Lib.hid bq
      simp only [qV] at HC HBQ
      clear hmem hq' bq hkw hg
      generalize shwK leafD o q = t at *
      have hO0 := own_below HO.out HBQ.out
      go_wp2_with fail
      (with_reducible refine (HC.out).mono ?_)
      rintro _ w2 ⟨rfl, hb2⟩
      have hs2 := hb2.size
      simp at hs2
      have hO1 := own_below (own_below hO0 hb2) (bel_alloc (Below.refl _ _) (.cells #[.string ⟨t.toArray⟩] 9))
      have hR := Ss.const w2 [t] #[.string ⟨t.toArray⟩] 9 (0, 0) 1 rfl rfl
      have HB2 := Lib.hid ((HB.out.trans ((bel_step HBQ.out hb2).mono (by omega))).trans (bel_alloc (Below.refl w2.heap.size w2) (.cells #[.string ⟨t.toArray⟩] 9) |>.mono (by omega)))
      clear hO0 hb2
      go_wp2_with (at_builtin; refine wpList_appS1 rfl rfl rfl hO1 rfl hR (by omega) (by simp; omega) ?_; intro A' c3 w7 h2 h3)
      have HO7 := Lib.hid h2
      have HB7 := Lib.hid (HB2.out.trans h3)
      clear h2 h3 hO1 hR
      go_roundw
      case rel => exact ⟨A', k + 1, c3, by rfl, by go_num, by omega, Lib.hid (by rw [HSN.out]; exact HO7.out), HB7⟩
      case measure => simp [intOf]; omega
    · obtain rfl : k = l.length := by omega
      have HOL : Hid (Os wr (w.heap.size + 1) A2 l.length c2 (l.map (shwK leafD o))) := Lib.hid (by have := HO.out; rwa [List.take_length] at this)
      have HBB := Lib.hid (bel_step HB0.out (hsz ▸ HB.out : Below (w.alloc (.cells #[.int .i64 o, .int .i64 n, .string ⟨s.toArray⟩, .slice A l.length c] 25)).heap.size _ wr))
      have HWR := Lib.hid (HW0.out.keep (hsz ▸ HB.out : Below (w.alloc (.cells #[.int .i64 o, .int .i64 n, .string ⟨s.toArray⟩, .slice A l.length c] 25)).heap.size _ wr))
      clear HO HB hkw hsz
      by_cases h5 : o = 5
      · subst h5
        obtain ⟨e1, -, -⟩ := k1 rfl
        obtain ⟨x, b, off, rfl, hg, hb, hcx⟩ := HOL.out.ss.at (show 0 < l.length by omega)
        have HV := Lib.hid (not_text n s e1 hg.out)
        have hxl : x.length ≤ 100000 := by
          rw [HV.out, List.length_append] at hlen2
          omega
        have hcc := own_cap HOL.out
        have hzx : (ByteArray.mk x.toArray).size = x.length := size_of x
        have d0 : 0 < l.length := by omega
        simp only [Nat.add_zero] at hcx
        clear hg e1 k1 k2 k3
        go_wp2_with fail
        go_ret
        exact ⟨(congrArg (fun z => Ending.returned (.string z)) (ba_app26 [110, 111, 116, 32] x)).trans (by rw [HV.out]), HBB.out⟩
      by_cases h3 : o = 3
      · subst h3
        obtain ⟨e1, -, -⟩ := k2 (.inl rfl)
        have hj := join_shw [32] 3 (ks := l) (by rintro rfl; simp at e1)
        have HV : Hid (shwD ⟨3, n, s, l⟩ = Lib.join (l.map (shwK leafD 3)) [32]) := Lib.hid (by rw [hj]; simp only [shwD, shwQ]; rfl)
        have HC := Lib.hid (join_row (l.map (shwK leafD 3)) [32] A2 l.length c2 wr _ HOL.out (by omega) (by rw [← HV.out]; omega) (by omega))
        rw [← HV.out] at HC
        clear hj
        go_wp2_with fail
        (with_reducible refine (HC.out).mono ?_)
        rintro _ w2 ⟨rfl, hb2⟩
        go_wp2_with fail
        go_ret
        exact ⟨rfl, bel_step HBB.out hb2⟩
      by_cases h4 : o = 4
      · subst h4
        obtain ⟨e1, -, -⟩ := k2 (.inr rfl)
        have hj := join_shw [32, 111, 114, 32] 4 (ks := l) (by rintro rfl; simp at e1)
        have HV : Hid (shwD ⟨4, n, s, l⟩ = Lib.join (l.map (shwK leafD 4)) [32, 111, 114, 32]) := Lib.hid (by rw [hj]; simp only [shwD, shwQ]; rfl)
        have HC := Lib.hid (join_row (l.map (shwK leafD 4)) [32, 111, 114, 32] A2 l.length c2 wr _ HOL.out (by omega) (by rw [← HV.out]; omega) (by omega))
        rw [← HV.out] at HC
        clear hj
        go_wp2_with fail
        (with_reducible refine (HC.out).mono ?_)
        rintro _ w2 ⟨rfl, hb2⟩
        go_wp2_with fail
        go_ret
        exact ⟨rfl, bel_step HBB.out hb2⟩
      have d5 : (o == 5) = false := by simpa using h5
      have d3 : (o == 3) = false := by simpa using h3
      have d4 : (o == 4) = false := by simpa using h4
      have hk0 := k3 h3 h4 h5
      have HV : Hid (shwD ⟨o, n, s, l⟩ = leafD o n s) := Lib.hid (by simp only [shwD, shwQ]; rw [if_neg h5, if_neg h3, if_neg h4])
      have HC := Lib.hid (leaf26_any o n s A l.length c wr HWR.out h3 h4 h5 (by rw [← hk0]; exact h1))
      clear h3 h4 h5 k1 k2 k3 hk0
      go_wp2_with fail
      (with_reducible refine (HC.out).mono ?_)
      rintro _ w2 ⟨rfl, hb2⟩
      go_wp2_with fail
      go_ret
      exact ⟨by rw [HV.out]; rfl, bel_step HBB.out hb2⟩
/-- Show of a query that may be, and of one that may not -/
theorem Show26_yes (q : Qy) (hok : okQ q = true) (ha : Ask q) (vs : Array Value) (w : World) (S : Nat → Prop) (hW : QpW w) (hq : QAt w S vs q) : Calls Tryz.prog 13 #[.agg vs] w fun e w' => e = .returned (.tuple #[.string ⟨(shwD q).toArray⟩, .int .i64 0]) ∧ Below w.heap.size w w' := by
  have hok2 := hok
  unfold okQ at hok2
  simp only [Bool.and_eq_true, decide_eq_true_eq] at hok2
  obtain ⟨A, c, rfl, -, -, -, -, -, -⟩ := hq.open_
  have b0 := bel_alloc (Below.refl w.heap.size w) (.cells (qV q.op q.n q.s A q.kids.length c) 25)
  have X0 := Lib.hid (Blk.new w 25 (qV q.op q.n q.s A q.kids.length c))
  have HQ := Lib.hid (hq.bel b0)
  have HC := Lib.hid (Check25_any q ha _ _ _ HQ.out)
  rw [hok] at HC
  have HE1 : Hid (errV true = .int .i64 0) := Lib.hid rfl
  rw [HE1.out] at HC
  have HS := Lib.hid (fun vs W S h1 h2 => show26_any q vs W S hok2.2 hok2.1.2 h1 h2)
  have HW := Lib.hid (hW.keep b0)
  have B0 := Lib.hid b0
  simp only [qV] at *
  generalize shwD q = t at *
  clear hq hW hok hok2 b0
  go_enter Tryz.func13, Tryz.ntmps13
  go_wp2_with fail
  (with_reducible refine (HC.out).mono ?_)
  rintro _ w1 ⟨rfl, hb1⟩
  have HC2 := Lib.hid (HS.out _ w1 _ (HW.out.keep hb1) (HQ.out.bel hb1))
  have HX1 := Lib.hid (X0.out.below hb1 X0.out.lt)
  obtain ⟨z0, z1, z2, z3, z4, z5⟩ := res_facts HX1.out
  have HB1 := Lib.hid (bel_step B0.out hb1)
  clear hb1
  go_wp2_with fail
  (with_reducible refine (HC2.out).mono ?_)
  rintro _ w2 ⟨rfl, hb2⟩
  go_wp2_with fail
  go_ret2
  exact ⟨rfl, bel_step HB1.out hb2⟩
theorem Show26_no (q : Qy) (hok : okQ q = false) (ha : Ask q) (vs : Array Value) (w : World) (S : Nat → Prop) (hq : QAt w S vs q) : Calls Tryz.prog 13 #[.agg vs] w fun e w' => e = .returned (.tuple #[.string ⟨#[]⟩, .int .i64 250]) ∧ Below w.heap.size w w' := by
  obtain ⟨A, c, rfl, -, -, -, -, -, -⟩ := hq.open_
  have b0 := bel_alloc (Below.refl w.heap.size w) (.cells (qV q.op q.n q.s A q.kids.length c) 25)
  have HQ := Lib.hid (hq.bel b0)
  have HC := Lib.hid (Check25_any q ha _ _ _ HQ.out)
  rw [hok] at HC
  have HE2 : Hid (errV false = .int .i64 250) := Lib.hid rfl
  rw [HE2.out] at HC
  have B0 := Lib.hid b0
  simp only [qV] at *
  clear hq hok b0
  go_enter Tryz.func13, Tryz.ntmps13
  go_wp2_with fail
  (with_reducible refine (HC.out).mono ?_)
  rintro _ w1 ⟨rfl, hb1⟩
  go_wp2_with fail
  go_ret2
  exact ⟨rfl, bel_step B0.out hb1⟩
end Go.Proofs.YtjjlmkleidbmhaaGreatDoor
end
section
section
namespace Go.Proofs.YtjjlmkleidbmhaaGreatDoor
open Go.RowKit Go.Nst
set_option maxRecDepth 100000
set_option linter.unusedVariables false
set_option linter.unusedSimpArgs false

theorem of_from {n y : Int} {k : Nat} (h : mayM n = true) (h0 : 1 ≤ y) (h1 : y ≤ 9999) (hk : 1 ≤ k) (hk2 : k ≤ 12) (ha : 0 ≤ (n + 62135596800) / 86400 - aheadY y - cumN y k) (hb : (n + 62135596800) / 86400 - aheadY y - cumN y k < daysM y k) :
    ofD n = ⟨y, k, (n + 62135596800) / 86400 - aheadY y - cumN y k + 1, (n + 62135596800) % 86400 / 3600, (n + 62135596800) % 86400 / 60 % 60, (n + 62135596800) % 86400 % 60⟩ := by
  have hok : Dt.ok ⟨y, k, (n + 62135596800) / 86400 - aheadY y - cumN y k + 1, (n + 62135596800) % 86400 / 3600, (n + 62135596800) % 86400 / 60 % 60, (n + 62135596800) % 86400 % 60⟩ = true := by
    rw [ok_iff]
    simp only
    omega
  obtain ⟨j, hj, _, _, hd, _⟩ := day_in hok
  simp only at hj hd
  obtain rfl : k = j := by omega
  have hm : Dt.mom ⟨y, k, (n + 62135596800) / 86400 - aheadY y - cumN y k + 1, (n + 62135596800) % 86400 / 3600, (n + 62135596800) % 86400 / 60 % 60, (n + 62135596800) % 86400 % 60⟩ = n := by
    unfold Dt.mom
    simp only
    rw [hd]
    omega
  have := ofD_mom hok
  rw [hm] at this
  exact this
theorem year_from {D : Int} (h0 : 0 ≤ D) (h1 : D ≤ 3652058) : 1 ≤ D / 366 + 1 ∧ D / 366 + 1 ≤ 9999 ∧ aheadY (D / 366 + 1) ≤ D := by
  unfold aheadY
  omega
theorem year_last {D : Int} (h1 : D ≤ 3652058) : D < aheadY 10000 := by
  have : aheadY 10000 = 3652059 := by decide
  omega
set_option maxHeartbeats 4000000 in
theorem of4_any (n : Int) (w : World) (h : mayM n = true) : Calls Tryz.prog 65 #[.int .i64 n] w fun e w' => e = .returned (Dt.val (ofD n)) ∧ Below w.heap.size w w' := by
  have HF := Lib.hid (fun (y : Int) (k : Nat) => of_from (n := n) (y := y) (k := k) h)
  rw [mayM_iff] at h
  have k0 : IntKind.i64.wrap (n + 62135596800) = n + 62135596800 := IntWalk.i64_in _ (by omega)
  have hD : 0 ≤ (n + 62135596800) / 86400 ∧ (n + 62135596800) / 86400 ≤ 3652058 := by omega
  have hR : 0 ≤ (n + 62135596800) % 86400 ∧ (n + 62135596800) % 86400 < 86400 := by omega
  have hY := year_from hD.1 hD.2
  have hL := year_last hD.2
  have hn : 0 ≤ n + 62135596800 := by omega
  have HV : Hid (Dt.val (ofD n) = Dt.val (ofD n)) := rfl
  generalize hDD : (n + 62135596800) / 86400 = D at *
  generalize hRR : (n + 62135596800) % 86400 = R at *
  have k1 : (n + 62135596800).tmod 86400 = R := by rw [← hRR]; exact Int.tmod_eq_emod_of_nonneg hn
  have k3 : (n + 62135596800).tdiv 86400 = D := by rw [← hDD]; exact Int.tdiv_eq_ediv_of_nonneg hn
  have HK := Lib.hid (And.intro hDD hRR)
  clear hRR
  have B0 := bel_alloc (Below.refl w.heap.size w) (.cells #[.int .i64 0, .int .i64 0, .int .i64 0, .int .i64 0, .int .i64 0, .int .i64 0] 80)
  go_enter Tryz.func65, Tryz.ntmps65
  go_wp2_with fail
  (with_reducible refine (zero_any _).mono ?_)
  rintro e w1 ⟨rfl, rfl⟩
  go_wp2_with fail
  go_loop [5] (fun v => ∃ y : Int, v = .int .i64 y ∧ 1 ≤ y ∧ y ≤ 9999 ∧ aheadY y ≤ D) (fun v => (9999 - intOf v).toNat)
  case atStart => exact ⟨_, rfl, hY.1, hY.2.1, hY.2.2⟩
  case round =>
    obtain ⟨y, rfl, hy1, hy2, ha⟩ := hrel
    by_cases hc : y < 9999 ∧ aheadY (y + 1) ≤ D
    · obtain ⟨hlt, hd⟩ := hc
      clear hY hL
      go_wp2_with fail
      (with_reducible refine (ahead_any _ _ (by omega) (by omega)).mono ?_)
      rintro e w1 ⟨rfl, rfl⟩
      go_wp2_with fail
      go_round
      case rel => exact ⟨y + 1, rfl, by omega, by omega, hd⟩
      case measure => simp [intOf]; omega
    · have hend : D < aheadY (y + 1) := by
        by_cases e : y = 9999
        · subst e; exact hL
        · omega
      have hnext := ahead_next y
      have h13 := cum13 y hy1 hy2
      have hlp : (if leapB y then (1 : Int) else 0) = 0 ∨ (if leapB y then (1 : Int) else 0) = 1 := by split <;> simp
      generalize (if leapB y then (1 : Int) else 0) = lp at *
      have hbd := aheadY_bd hy1 (show y ≤ 100000 by omega)
      have hyc := hc
      clear hc hY hL
      have hdiff : 0 ≤ D - aheadY y ∧ D - aheadY y < 365 + lp := by omega
      have H13 := Lib.hid h13
      have HA := Lib.hid (fun W => ahead_any y W hy1 (by omega))
      have HFy := Lib.hid (HF.out y)
      have HA1 := Lib.hid (fun W => ahead_any (y + 1) W (by omega) (by omega))
      have hb1 := aheadY_bd (y := y + 1) (by omega) (by omega)
      clear hnext h13 HF
      generalize aheadY (y + 1) = a1 at *
      generalize aheadY y = a at *
      have kD : IntKind.i64.wrap (D - a) = D - a := IntWalk.i64_in _ (by omega)
      by_cases hlt : y < 9999
      all_goals
        go_wp2_with fail
        first
          | ((with_reducible refine (HA1.out _).mono ?_); rintro e w1 ⟨rfl, rfl⟩)
          | skip
        go_wp2_with fail
        (with_reducible refine (HA.out _).mono ?_)
        rintro e w1 ⟨rfl, rfl⟩
        go_wp2_with fail
        go_loop [3, 6] (fun v i => ∃ (k : Nat) (x : Int), v = .int .i64 x ∧ i = .int .i64 (k : Int) ∧ 1 ≤ k ∧ k ≤ 12 ∧ 0 ≤ x ∧ x ≤ 400 ∧ Hid (x = D - a - cumN y k)) (fun _ i => 13 - (intOf i).toNat)
        case atStart => exact ⟨1, _, rfl, rfl, by omega, by omega, by omega, by omega, Lib.hid (by rw [cum_one]; omega)⟩
        case round =>
          obtain ⟨k, x, rfl, rfl, hk1, hk2, hx0, hx1, HX⟩ := hrel
          have HDY := Lib.hid (fun W => refDays_any y (k : Int) W)
          have hdb := daysM_bd y (k : Int)
          have HS := Lib.hid (cum_succ y k hk1)
          have HG := Lib.hid (fun h1 h2 => HFy.out k hy1 hy2 hk1 hk2 h1 h2)
          have HC := Lib.hid (show k = 12 → daysM y (k : Int) = daysM y 12 ∧ cumN y k = cumN y 12 from fun e => by subst e; exact ⟨rfl, rfl⟩)
          generalize daysM y (k : Int) = q at *
          by_cases hge : q ≤ x
          · have hk12 : k < 12 := by
              by_cases e : k = 12
              · exfalso
                have h1 := HX.out
                have h2 := HC.out e
                have h3 := H13.out
                omega
              · omega
            have HN : Hid (x - q = D - a - cumN y (k + 1)) := Lib.hid (by have h1 := HX.out; have h2 := HS.out; omega)
            have hkk : IntKind.i64.wrap (x - q) = x - q := IntWalk.i64_in _ (by omega)
            clear HS HG HC
            go_wp2_with fail
            (with_reducible refine (HDY.out _).mono ?_)
            rintro e w1 ⟨rfl, rfl⟩
            go_wp2_with fail
            (with_reducible refine (HDY.out _).mono ?_)
            rintro e w1 ⟨rfl, rfl⟩
            go_wp2_with fail
            go_round
            case rel => exact ⟨k + 1, x - q, rfl, by go_num, by omega, by omega, by omega, by omega, HN⟩
            case measure => simp [intOf]; omega
          · have HE : Hid (ofD n = ⟨y, k, x + 1, R / 3600, R / 60 % 60, R % 60⟩) := Lib.hid (by
              have h1 := HX.out
              have h2 := HG.out (by omega) (by omega)
              rw [h2, h1])
            clear HS HG HC
            go_wp2_with fail
            (with_reducible refine (HDY.out _).mono ?_)
            rintro e w1 ⟨rfl, rfl⟩
            go_wp2_with fail
            rw [HE.out]
            exact bodyPost_ret (v := Dt.val ⟨y, k, x + 1, R / 3600, R / 60 % 60, R % 60⟩) (by simp [results, Tryz.results65, go_sem, Dt.val, Dt.cells]) rfl ⟨rfl, bel_alloc (Below.refl _ _) _⟩
theorem ba_app2 (a b : List UInt8) : (ByteArray.mk a.toArray) ++ (ByteArray.mk b.toArray) = ⟨(a ++ b).toArray⟩ := by
  apply ByteArray.ext
  simp [ByteArray.data_append]
theorem dig_char (d : Nat) (h : d < 10) : (ByteArray.mk #[48, 49, 50, 51, 52, 53, 54, 55, 56, 57]).extract d (d + 1) = ⟨#[UInt8.ofNat (48 + d)]⟩ := by
  rcases (by omega : d = 0 ∨ d = 1 ∨ d = 2 ∨ d = 3 ∨ d = 4 ∨ d = 5 ∨ d = 6 ∨ d = 7 ∨ d = 8 ∨ d = 9) with rfl | rfl | rfl | rfl | rfl | rfl | rfl | rfl | rfl | rfl <;> rfl
theorem digL_cons4 : ∀ (z : Nat) (n : Int), digL (z + 1) n = UInt8.ofNat (48 + (n / 10 ^ z % 10).toNat) :: digL z n
  | 0, n => by simp [digL]
  | z + 1, n => by
    have ih := digL_cons4 z (n / 10)
    rw [digL, ih, Int.ediv_ediv_of_nonneg (by omega), show (10 : Int) * 10 ^ z = 10 ^ (z + 1) by rw [Int.pow_succ, Int.mul_comm]]
    rfl
set_option maxHeartbeats 4000000 in
theorem dig4_any (wide : Nat) (n : Int) (w : World) (h0 : 0 ≤ n) (h1 : n ≤ 100000) (hw : wide ≤ 9) :
    Calls Tryz.prog 66 #[.int .i64 n, .int .i64 (wide : Int)] w fun e w' => e = .returned (.string ⟨(digL wide n).toArray⟩) ∧ w = w' := by
  go_enter Tryz.func66, Tryz.ntmps66
  go_wp2_with fail
  go_loop [0, 5, 6] (fun f s i => ∃ (z : Nat) (q : Int), f = .int .i64 q ∧ s = .string ⟨(digL z n).toArray⟩ ∧ i = .int .i64 (z : Int) ∧ z ≤ wide ∧ 0 ≤ q ∧ q ≤ 100000 ∧ Hid (q = n / 10 ^ z)) (fun _ _ i => wide - (intOf i).toNat)
  case atStart => exact ⟨0, n, rfl, rfl, rfl, by omega, h0, h1, Lib.hid (by simp)⟩
  case round =>
    obtain ⟨z, q, rfl, rfl, rfl, hz, hq0, hq1, HQ⟩ := hrel
    by_cases hlt : z < wide
    · obtain ⟨d, hd⟩ : ∃ d : Nat, q % 10 = (d : Int) := ⟨(q % 10).toNat, by omega⟩
      have hd10 : d < 10 := by omega
      have t1 : q.tmod 10 = (d : Int) := by rw [Int.tmod_eq_emod_of_nonneg hq0]; exact hd
      have hdl := digL_len z n
      have HN : Hid ((ByteArray.mk #[UInt8.ofNat (48 + d)]) ++ (ByteArray.mk (digL z n).toArray) = ⟨(digL (z + 1) n).toArray⟩) := Lib.hid (by
        rw [digL_cons4, ← HQ.out, hd, show ByteArray.mk #[UInt8.ofNat (48 + d)] = ⟨[UInt8.ofNat (48 + d)].toArray⟩ from rfl, ba_app2]
        simp)
      have HQ2 : Hid (q / 10 = n / 10 ^ (z + 1)) := Lib.hid (by rw [HQ.out, Int.ediv_ediv_of_nonneg (Int.pow_nonneg (by omega)), Int.pow_succ])
      have hch := dig_char d hd10
      clear hd
      generalize UInt8.ofNat (48 + d) = c at *
      generalize digL z n = pre at *
      go_wp2_with fail
      go_round
      case rel => exact ⟨z + 1, q / 10, rfl, by rw [HN.out], by go_num, by omega, by omega, by omega, HQ2⟩
      case measure => simp [intOf]; omega
    · obtain rfl : z = wide := by omega
      clear HQ
      go_wp2_with fail
      go_ret
      exact ⟨rfl, rfl⟩
theorem str_at (s : ByteArray) (k : Nat) (w : World) (h : k < s.size) : (Instr.index 9 (.string s) (.int .i64 (k : Int))).run Tryz.prog w = .ok (.int .u8 (((s[k]'h).toNat : Nat) : Int)) w := by
  rw [run_index_string w 9 s .i64 _ Tryz.underlying9, dif_pos (by omega)]
  rfl
set_option maxHeartbeats 4000000 in
theorem num4_any (s : ByteArray) (w : World) (hs : s.size ≤ 1000000) :
    Calls Tryz.prog 129 #[.string s] w fun e w' => e = .returned (.int .i64 (numR (bl s))) ∧ w = w' := by
  have hlen := bl_len s
  by_cases hl : 1 ≤ s.size ∧ s.size ≤ 9
  · have d1 : decide ((s.size : Int) < 1) = false := by simp; omega
    have d2 : decide ((9 : Int) < (s.size : Int)) = false := by simp; omega
    have d3 : decide (9 < s.size) = false := by simp; omega
    have hpow : ∀ k : Nat, k ≤ 9 → (10 : Int) ^ k ≤ 1000000000 := by
      intro k hk
      rcases (by omega : k = 0 ∨ k = 1 ∨ k = 2 ∨ k = 3 ∨ k = 4 ∨ k = 5 ∨ k = 6 ∨ k = 7 ∨ k = 8 ∨ k = 9) with rfl | rfl | rfl | rfl | rfl | rfl | rfl | rfl | rfl | rfl <;> decide
    have HPW := Lib.hid hpow
    have HL := Lib.hid hlen
    clear hpow hlen
    go_enter Tryz.func129, Tryz.ntmps129
    go_wp2_with fail
    go_loop [3, 4] (fun v i => ∃ k : Nat, i = .int .i64 (k : Int) ∧ v = .int .i64 (numL ((bl s).take k)) ∧ k ≤ s.size ∧ Hid (((bl s).take k).all digB = true)) (fun _ i => s.size - (intOf i).toNat)
    case atStart => exact ⟨0, rfl, rfl, by omega, Lib.hid rfl⟩
    case round =>
      obtain ⟨k, rfl, rfl, hk, HA⟩ := hrel
      have hb0 := numL_in HA.out
      have hb1 := HPW.out k (by omega)
      have htl : ((bl s).take k).length = k := by rw [List.length_take, HL.out]; omega
      rw [htl] at hb0
      clear htl
      by_cases hlt : k < s.size
      · have hix := fun W => str_at s k W hlt
        have hg := bl_get s k hlt
        have hu := (s[k]'hlt).toNat_lt
        generalize s[k]'hlt = u at *
        have hsn : (bl s).take (k + 1) = (bl s).take k ++ [u] := by
          rw [List.take_add_one, hg]; rfl
        have HS := Lib.hid hsn
        have HM : Hid (u ∈ bl s) := Lib.hid (List.mem_of_getElem? hg)
        clear hsn hg
        by_cases hd : digB u = true
        · have hd' := hd
          unfold digB at hd'
          simp at hd'
          have t1 : decide (((u.toNat : Nat) : Int) < 48) = false := by simp; omega
          have t2 : decide ((57 : Int) < ((u.toNat : Nat) : Int)) = false := by simp; omega
          have q1 : IntKind.u8.wrap (((u.toNat : Nat) : Int) - 48) = ((u.toNat : Nat) : Int) - 48 := IntWalk.u8_in _ (by omega)
          have q2 : IntKind.i64.wrap (10 * numL ((bl s).take k)) = 10 * numL ((bl s).take k) := IntWalk.i64_in _ (by omega)
          have q3 : IntKind.i64.wrap (10 * numL ((bl s).take k) + (((u.toNat : Nat) : Int) - 48)) = 10 * numL ((bl s).take k) + (((u.toNat : Nat) : Int) - 48) := IntWalk.i64_in _ (by omega)
          have q4 : IntKind.i64.wrap (((u.toNat : Nat) : Int) - 48) = ((u.toNat : Nat) : Int) - 48 := IntWalk.i64_in _ (by omega)
          have HN : Hid (numL ((bl s).take (k + 1)) = 10 * numL ((bl s).take k) + (((u.toNat : Nat) : Int) - 48) ∧ ((bl s).take (k + 1)).all digB = true) := Lib.hid (by
            rw [HS.out, numL_snoc, List.all_append, HA.out]
            exact ⟨rfl, by simp [hd]⟩)
          generalize numL ((bl s).take k) = x at *
          clear hd hd' HA HM
          go_wp2_with fail
          go_round
          case rel => exact ⟨k + 1, by go_num, by rw [HN.out.1], by omega, Lib.hid HN.out.2⟩
          case measure => simp [intOf]; omega
        · have hd' : u.toNat < 48 ∨ 57 < u.toNat := by unfold digB at hd; simp at hd; omega
          have HV : Hid (numR (bl s) = -1) := Lib.hid (num_neg (by
            cases ha : (bl s).all digB with
            | false => rfl
            | true => exact absurd (List.all_eq_true.1 ha u HM.out) hd))
          clear hd HA HM
          generalize numL ((bl s).take k) = x at *
          go_wp2_with fail
          all_goals (go_ret; rw [HV.out]; exact ⟨rfl, rfl⟩)
      · obtain rfl : k = s.size := by omega
        have hfull : (bl s).take s.size = bl s := List.take_of_length_le (by rw [HL.out]; omega)
        have HV : Hid (numR (bl s) = numL ((bl s).take s.size)) := Lib.hid (by rw [hfull] at HA ⊢; exact num_pos HA.out (by rw [HL.out]; omega) (by rw [HL.out]; omega))
        clear hfull HA
        generalize numL ((bl s).take s.size) = x at *
        go_wp2_with fail
        go_ret
        rw [HV.out]
        exact ⟨rfl, rfl⟩
  · have HV : Hid (numR (bl s) = -1) := Lib.hid (by unfold numR; rw [if_neg]; rw [hlen]; omega)
    clear hlen
    generalize numR (bl s) = x at *
    go_enter Tryz.func129, Tryz.ntmps129
    by_cases h0 : s.size < 1
    all_goals
      go_wp2_with fail
      go_ret
      rw [HV.out]
      exact ⟨rfl, rfl⟩
theorem refMoment4 {y m d h_ mi s : Int} (hok : Dt.ok ⟨y, m, d, h_, mi, s⟩ = true) (w : World) : Calls Tryz.prog 101 #[.agg #[.int .i64 y, .int .i64 m, .int .i64 d, .int .i64 h_, .int .i64 mi, .int .i64 s]] w fun e w' => e = .returned (.int .i64 (Dt.mom ⟨y, m, d, h_, mi, s⟩)) ∧ Below w.heap.size w w' := by
  obtain ⟨k, hk, h1, h2, hd, _⟩ := day_in hok
  have hym := ok_ym hok
  have ho := (ok_iff _).1 hok
  have hb := daysM_bd y m
  simp only at hk hd hym ho hb
  have hm : Dt.mom ⟨y, m, d, h_, mi, s⟩ = 86400 * dayR y k d + 3600 * h_ + 60 * mi + s - 62135596800 := by
    unfold Dt.mom dayR
    simp only
    rw [hd]
    omega
  subst hk
  rw [hm]
  exact refMoment_any y k d h_ mi s w hym.1 hym.2.1 h1 h2 (by omega) (by omega) (by omega) (by omega) (by omega) (by omega) (by omega) (by omega)
set_option maxHeartbeats 4000000 in
theorem told4_any (x : Dt) (z : Int) (w : World) (hz0 : -1000000 ≤ z) (hz1 : z ≤ 1000000) :
    Calls Tryz.prog 130 #[Dt.val x, .int .i64 z] w fun e w' => e = .returned (znV (toldR x z)) ∧ Below w.heap.size w w' := by
  obtain ⟨y, m, d, h_, mi, s⟩ := x
  simp only [Dt.val, Dt.cells]
  have B0 := bel_alloc (Below.refl w.heap.size w) (.cells #[.int .i64 y, .int .i64 m, .int .i64 d, .int .i64 h_, .int .i64 mi, .int .i64 s] 80)
  have hv0 := Blk.new w 80 #[.int .i64 y, .int .i64 m, .int .i64 d, .int .i64 h_, .int .i64 mi, .int .i64 s]
  have HC := Lib.hid (fun W => refCheck4_any y m d h_ mi s W)
  cases hok : Dt.ok ⟨y, m, d, h_, mi, s⟩ with
  | false =>
    have HTN : Hid (toldR ⟨y, m, d, h_, mi, s⟩ z = none) := Lib.hid (told_no hok z)
    rw [hok] at HC
    clear hok
    go_enter Tryz.func130, Tryz.ntmps130
    go_wp2_with fail
    (with_reducible refine (HC.out _).mono ?_)
    rintro e w1 ⟨rfl, hb1⟩
    have B1 := bel_step B0 hb1
    clear hb1 B0 hv0
    go_wp2_with fail
    go_ret2
    rw [HTN.out]
    exact ⟨rfl, B1⟩
  | true =>
    have HM := Lib.hid (fun W => refMoment4 hok W)
    have hmb := mom_bounds hok
    rw [mayM_iff] at hmb
    have HTR : Hid (toldR ⟨y, m, d, h_, mi, s⟩ z = if mayM (Dt.mom ⟨y, m, d, h_, mi, s⟩ - z) = true then some (Dt.mom ⟨y, m, d, h_, mi, s⟩ - z) else none) := Lib.hid (by unfold toldR; rw [hok, Bool.true_and])
    rw [hok] at HC
    clear hok
    generalize Dt.mom ⟨y, m, d, h_, mi, s⟩ = M at *
    have k1 : IntKind.i64.wrap (M - z) = M - z := IntWalk.i64_in _ (by omega)
    have HMY := Lib.hid (fun W => refMay4_any (M - z) W)
    cases hmm : mayM (M - z) with
    | false =>
      rw [hmm] at HMY HTR
      have HTN : Hid (toldR ⟨y, m, d, h_, mi, s⟩ z = none) := Lib.hid HTR.out
      clear hmm HTR
      go_enter Tryz.func130, Tryz.ntmps130
      go_wp2_with fail
      (with_reducible refine (HC.out _).mono ?_)
      rintro e w1 ⟨rfl, hb1⟩
      have B1 := bel_step B0 hb1
      have hv1 := hv0.below hb1 hv0.lt
      have c0 := Blk.cell hv1 0
      have c1 := Blk.cell hv1 1
      have c2 := Blk.cell hv1 2
      have c3 := Blk.cell hv1 3
      have c4 := Blk.cell hv1 4
      have c5 := Blk.cell hv1 5
      simp at c0 c1 c2 c3 c4 c5
      clear hb1 B0 hv0
      go_wp2_with fail
      (with_reducible refine (HM.out _).mono ?_)
      rintro e w2 ⟨rfl, hb2⟩
      have B2 := bel_step B1 hb2
      clear c0 c1 c2 c3 c4 c5 hb2
      go_wp2_with fail
      (with_reducible refine (HMY.out _).mono ?_)
      rintro e w3 ⟨rfl, hb3⟩
      have B3 := bel_step B2 hb3
      clear hb3
      go_wp2_with fail
      go_ret2
      rw [HTN.out]
      exact ⟨rfl, B3⟩
    | true =>
      rw [hmm] at HMY HTR
      have HTN : Hid (toldR ⟨y, m, d, h_, mi, s⟩ z = some (M - z)) := Lib.hid HTR.out
      clear hmm HTR
      go_enter Tryz.func130, Tryz.ntmps130
      go_wp2_with fail
      (with_reducible refine (HC.out _).mono ?_)
      rintro e w1 ⟨rfl, hb1⟩
      have B1 := bel_step B0 hb1
      have hv1 := hv0.below hb1 hv0.lt
      have c0 := Blk.cell hv1 0
      have c1 := Blk.cell hv1 1
      have c2 := Blk.cell hv1 2
      have c3 := Blk.cell hv1 3
      have c4 := Blk.cell hv1 4
      have c5 := Blk.cell hv1 5
      simp at c0 c1 c2 c3 c4 c5
      clear hb1 B0 hv0
      go_wp2_with fail
      (with_reducible refine (HM.out _).mono ?_)
      rintro e w2 ⟨rfl, hb2⟩
      have B2 := bel_step B1 hb2
      have hv2 := hv1.below hb2 hv1.lt
      clear c0 c1 c2 c3 c4 c5 hb2
      go_wp2_with fail
      (with_reducible refine (HMY.out _).mono ?_)
      rintro e w3 ⟨rfl, hb3⟩
      have B3 := bel_step B2 hb3
      have hv3 := hv2.below hb3 hv2.lt
      clear hb3
      have c0 := Blk.cell hv3 0
      have c1 := Blk.cell hv3 1
      have c2 := Blk.cell hv3 2
      have c3 := Blk.cell hv3 3
      have c4 := Blk.cell hv3 4
      have c5 := Blk.cell hv3 5
      simp at c0 c1 c2 c3 c4 c5
      go_wp2_with fail
      (with_reducible refine (HM.out _).mono ?_)
      rintro e w4 ⟨rfl, hb4⟩
      have B4 := bel_step B3 hb4
      clear c0 c1 c2 c3 c4 c5 hb4
      go_wp2_with fail
      go_ret2
      rw [HTN.out]
      exact ⟨rfl, B4⟩
set_option maxHeartbeats 4000000 in
theorem zone4_any (c : UInt8) (h m : ByteArray) (w : World) (hh : h.size ≤ 1000000) (hm : m.size ≤ 1000000) :
    Calls Tryz.prog 131 #[.int .u8 (c.toNat : Int), .string h, .string m] w fun e w' => e = .returned (znV (zoneR c (bl h) (bl m))) ∧ w = w' := by
  have HH := Lib.hid (fun W => num4_any h W hh)
  have HM := Lib.hid (fun W => num4_any m W hm)
  have hc := c.toNat_lt
  have e43 : c = 43 ↔ c.toNat = 43 := by rw [← UInt8.toNat_inj]; rfl
  have e45 : c = 45 ↔ c.toNat = 45 := by rw [← UInt8.toNat_inj]; rfl
  have HV : Hid (zoneR c (bl h) (bl m) = if (c.toNat ≠ 43 ∧ c.toNat ≠ 45) ∨ h.size ≠ 2 ∨ m.size ≠ 2 ∨ numR (bl h) < 0 ∨ 23 < numR (bl h) ∨ numR (bl m) < 0 ∨ 59 < numR (bl m) then none else some (if c.toNat = 45 then -(3600 * numR (bl h) + 60 * numR (bl m)) else 3600 * numR (bl h) + 60 * numR (bl m))) := Lib.hid (by
    unfold zoneR offN
    rw [bl_len, bl_len]
    simp only [ne_eq, e43, e45])
  clear e43 e45
  generalize numR (bl h) = a at *
  generalize numR (bl m) = b at *
  generalize zoneR c (bl h) (bl m) = res at *
  generalize hcc : c.toNat = cn at *
  clear hcc
  by_cases hbad : (cn ≠ 43 ∧ cn ≠ 45) ∨ h.size ≠ 2 ∨ m.size ≠ 2 ∨ a < 0 ∨ 23 < a ∨ b < 0 ∨ 59 < b
  · have HV2 := Lib.hid (HV.out.trans (if_pos hbad))
    clear HV
    go_enter Tryz.func131, Tryz.ntmps131
    go_wp2_with fail
    (with_reducible refine (HH.out _).mono ?_)
    rintro e w1 ⟨rfl, rfl⟩
    go_wp2_with fail
    (with_reducible refine (HM.out _).mono ?_)
    rintro e w1 ⟨rfl, rfl⟩
    go_wp2_with fail
    all_goals first
      | (go_ret2; rw [HV2.out]; exact ⟨rfl, rfl⟩)
      | (exfalso; simp_all; omega)
  · have HV2 := Lib.hid (HV.out.trans (if_neg hbad))
    clear HV
    have h2 : h.size = 2 := by omega
    have m2 : m.size = 2 := by omega
    have ha0 : 0 ≤ a := by omega
    have ha1 : a ≤ 23 := by omega
    have hb0 : 0 ≤ b := by omega
    have hb1 : b ≤ 59 := by omega
    have t1 : decide (a < 0) = false := by simp; omega
    have t2 : decide (23 < a) = false := by simp; omega
    have t3 : decide (b < 0) = false := by simp; omega
    have t4 : decide (59 < b) = false := by simp; omega
    have hcn : cn = 43 ∨ cn = 45 := by omega
    clear hbad
    rcases hcn with rfl | rfl
    all_goals
      go_enter Tryz.func131, Tryz.ntmps131
      go_wp2_with fail
      (with_reducible refine (HH.out _).mono ?_)
      rintro e w1 ⟨rfl, rfl⟩
      go_wp2_with fail
      (with_reducible refine (HM.out _).mono ?_)
      rintro e w1 ⟨rfl, rfl⟩
      go_wp2_with fail
      go_ret2
      rw [HV2.out]
      exact ⟨rfl, rfl⟩
end Go.Proofs.YtjjlmkleidbmhaaGreatDoor
end
section
namespace Go.Proofs.YtjjlmkleidbmhaaGreatDoor
open Go.RowKit Go.Nst
set_option maxRecDepth 100000
set_option linter.unusedVariables false
set_option linter.unusedSimpArgs false

set_option maxHeartbeats 8000000 in
theorem show4_any (n : Int) (w : World) (h : mayM n = true) : Calls Tryz.prog 46 #[.int .i64 n] w fun e w' => e = .returned (.string ⟨(showT (ofD n)).toArray⟩) ∧ Below w.heap.size w w' := by
  have HO := Lib.hid (of4_any n w h)
  have hok := (ofD_ok h).1
  have h1 := ok_ym hok
  have h2 := (ok_iff _).1 hok
  have h3 := daysM_bd (ofD n).y (ofD n).m
  clear h hok
  generalize ofD n = x at *
  obtain ⟨y, m, d, h_, mi, s⟩ := x
  simp only at h1 h2 h3
  have DY := Lib.hid (fun W => dig4_any 4 y W (by omega) (by omega) (by omega))
  have DM := Lib.hid (fun W => dig4_any 2 m W (by omega) (by omega) (by omega))
  have DD := Lib.hid (fun W => dig4_any 2 d W (by omega) (by omega) (by omega))
  have DH := Lib.hid (fun W => dig4_any 2 h_ W (by omega) (by omega) (by omega))
  have DI := Lib.hid (fun W => dig4_any 2 mi W (by omega) (by omega) (by omega))
  have DS := Lib.hid (fun W => dig4_any 2 s W (by omega) (by omega) (by omega))
  have HV : Hid (showT ⟨y, m, d, h_, mi, s⟩ = digL 4 y ++ 45 :: (digL 2 m ++ 45 :: (digL 2 d ++ 84 :: (digL 2 h_ ++ 58 :: (digL 2 mi ++ 58 :: (digL 2 s ++ [90])))))) := rfl
  have ly := digL_len 4 y
  have lm := digL_len 2 m
  have ld := digL_len 2 d
  have lh := digL_len 2 h_
  have li := digL_len 2 mi
  have ls := digL_len 2 s
  generalize digL 4 y = ty at *
  generalize digL 2 m = tm at *
  generalize digL 2 d = td at *
  generalize digL 2 h_ = th at *
  generalize digL 2 mi = ti at *
  generalize digL 2 s = ts at *
  simp only [Dt.val, Dt.cells] at HO
  generalize showT ⟨y, m, d, h_, mi, s⟩ = res at *
  clear h1 h2 h3
  go_enter Tryz.func46, Tryz.ntmps46
  go_wp2_with fail
  (with_reducible refine (HO.out).mono ?_)
  rintro e w1 ⟨rfl, hb1⟩
  have B1 := bel_alloc hb1 (.cells #[.int .i64 y, .int .i64 m, .int .i64 d, .int .i64 h_, .int .i64 mi, .int .i64 s] 80)
  have hx := Blk.new w1 80 #[.int .i64 y, .int .i64 m, .int .i64 d, .int .i64 h_, .int .i64 mi, .int .i64 s]
  obtain ⟨gd, hgd⟩ : ∃ gd, gd = w1.heap.size := ⟨_, rfl⟩
  go_wp2_with fail
  rw [← hgd] at hx
  simp only [← hgd]
  generalize w1.alloc (.cells #[.int .i64 y, .int .i64 m, .int .i64 d, .int .i64 h_, .int .i64 mi, .int .i64 s] 80) = w2 at *
  clear hgd hb1
  refine wp_region_seqT (by kernel_rfl) [(0, true), (1, true), (4, true), (5, true), (9, true), (10, true), (14, true), (15, true), (19, true), (20, true), (24, true), (25, true), (2, true), (3, true), (6, true), (7, true), (8, true), (11, true), (12, true), (13, true), (16, true), (17, true), (18, true), (21, true), (22, true), (23, true), (26, true), (27, true), (28, true), (29, true)] (by kernel_rfl) rfl (by kernel_rfl) ?_
  intro w3 hb
  have hx := hx.below hb hx.lt
  have B1 := bel_step B1 hb
  have c0 := fun W (hW : Below w3.heap.size w3 W) => (show W.cell? ⟨gd, 0, none⟩ = some (.int .i64 y) from ((hx.below hW hx.lt).cell 0).trans rfl)
  have c1 := fun W (hW : Below w3.heap.size w3 W) => (show W.cell? ⟨gd, 1, none⟩ = some (.int .i64 m) from ((hx.below hW hx.lt).cell 1).trans rfl)
  have c2 := fun W (hW : Below w3.heap.size w3 W) => (show W.cell? ⟨gd, 2, none⟩ = some (.int .i64 d) from ((hx.below hW hx.lt).cell 2).trans rfl)
  have c3 := fun W (hW : Below w3.heap.size w3 W) => (show W.cell? ⟨gd, 3, none⟩ = some (.int .i64 h_) from ((hx.below hW hx.lt).cell 3).trans rfl)
  have c4 := fun W (hW : Below w3.heap.size w3 W) => (show W.cell? ⟨gd, 4, none⟩ = some (.int .i64 mi) from ((hx.below hW hx.lt).cell 4).trans rfl)
  have c5 := fun W (hW : Below w3.heap.size w3 W) => (show W.cell? ⟨gd, 5, none⟩ = some (.int .i64 s) from ((hx.below hW hx.lt).cell 5).trans rfl)
  clear hb
  iterate 12 (refine wpSeqT_take (o := ⟨_, _, _, _, _, _⟩) (v := ?_) rfl rfl ?_ ?_; rotate_left; (focus (intro W hW; go_simp; first | done | with_reducible rfl)); simp only [Act.put, List.setIfInBounds_toArray, List.set_cons_zero, List.set_cons_succ])
  clear c0 c1 c2 c3 c4 c5
  (refine wpSeqT_call (o := ⟨_, _, _, _, _, _⟩) rfl rfl (fun W hW => DY.out W) ?_ ?_; (focus (intro W hW; go_simp; first | done | with_reducible rfl)); simp only [Act.put, List.setIfInBounds_toArray, List.set_cons_zero, List.set_cons_succ])
  iterate 1 (refine wpSeqT_take (o := ⟨_, _, _, _, _, _⟩) (v := ?_) rfl rfl ?_ ?_; rotate_left; (focus (intro W hW; go_simp; first | done | with_reducible rfl)); simp only [Act.put, List.setIfInBounds_toArray, List.set_cons_zero, List.set_cons_succ])
  (refine wpSeqT_call (o := ⟨_, _, _, _, _, _⟩) rfl rfl (fun W hW => DM.out W) ?_ ?_; (focus (intro W hW; go_simp; first | done | with_reducible rfl)); simp only [Act.put, List.setIfInBounds_toArray, List.set_cons_zero, List.set_cons_succ])
  iterate 2 (refine wpSeqT_take (o := ⟨_, _, _, _, _, _⟩) (v := ?_) rfl rfl ?_ ?_; rotate_left; (focus (intro W hW; go_simp; first | done | with_reducible rfl)); simp only [Act.put, List.setIfInBounds_toArray, List.set_cons_zero, List.set_cons_succ])
  (refine wpSeqT_call (o := ⟨_, _, _, _, _, _⟩) rfl rfl (fun W hW => DD.out W) ?_ ?_; (focus (intro W hW; go_simp; first | done | with_reducible rfl)); simp only [Act.put, List.setIfInBounds_toArray, List.set_cons_zero, List.set_cons_succ])
  iterate 2 (refine wpSeqT_take (o := ⟨_, _, _, _, _, _⟩) (v := ?_) rfl rfl ?_ ?_; rotate_left; (focus (intro W hW; go_simp; first | done | with_reducible rfl)); simp only [Act.put, List.setIfInBounds_toArray, List.set_cons_zero, List.set_cons_succ])
  (refine wpSeqT_call (o := ⟨_, _, _, _, _, _⟩) rfl rfl (fun W hW => DH.out W) ?_ ?_; (focus (intro W hW; go_simp; first | done | with_reducible rfl)); simp only [Act.put, List.setIfInBounds_toArray, List.set_cons_zero, List.set_cons_succ])
  iterate 2 (refine wpSeqT_take (o := ⟨_, _, _, _, _, _⟩) (v := ?_) rfl rfl ?_ ?_; rotate_left; (focus (intro W hW; go_simp; first | done | with_reducible rfl)); simp only [Act.put, List.setIfInBounds_toArray, List.set_cons_zero, List.set_cons_succ])
  (refine wpSeqT_call (o := ⟨_, _, _, _, _, _⟩) rfl rfl (fun W hW => DI.out W) ?_ ?_; (focus (intro W hW; go_simp; first | done | with_reducible rfl)); simp only [Act.put, List.setIfInBounds_toArray, List.set_cons_zero, List.set_cons_succ])
  iterate 2 (refine wpSeqT_take (o := ⟨_, _, _, _, _, _⟩) (v := ?_) rfl rfl ?_ ?_; rotate_left; (focus (intro W hW; go_simp; first | done | with_reducible rfl)); simp only [Act.put, List.setIfInBounds_toArray, List.set_cons_zero, List.set_cons_succ])
  (refine wpSeqT_call (o := ⟨_, _, _, _, _, _⟩) rfl rfl (fun W hW => DS.out W) ?_ ?_; (focus (intro W hW; go_simp; first | done | with_reducible rfl)); simp only [Act.put, List.setIfInBounds_toArray, List.set_cons_zero, List.set_cons_succ])
  iterate 3 (refine wpSeqT_take (o := ⟨_, _, _, _, _, _⟩) (v := ?_) rfl rfl ?_ ?_; rotate_left; (focus (intro W hW; go_simp; first | done | with_reducible rfl)); simp only [Act.put, List.setIfInBounds_toArray, List.set_cons_zero, List.set_cons_succ])
  refine wpSeqT_nil ?_
  go_wp2_with fail
  go_ret
  rw [HV.out]
  exact ⟨by rw [show (ByteArray.mk #[45]) = ⟨[45].toArray⟩ from rfl, show (ByteArray.mk #[84]) = ⟨[84].toArray⟩ from rfl, show (ByteArray.mk #[58]) = ⟨[58].toArray⟩ from rfl, show (ByteArray.mk #[90]) = ⟨[90].toArray⟩ from rfl]; simp only [ba_app2]; simp, B1⟩

end Go.Proofs.YtjjlmkleidbmhaaGreatDoor
end
section
namespace Go.Proofs.YtjjlmkleidbmhaaGreatDoor
open Go.RowKit Go.Nst
set_option maxRecDepth 100000
set_option linter.unusedVariables false
set_option linter.unusedSimpArgs false

theorem bel_drewN {B : Nat} {w w' : World} (h : Below B w w') (n : Nat) : Below B w (w'.drewN n) := ⟨h.os, h.tape, h.output, h.size, h.block⟩
end Go.Proofs.YtjjlmkleidbmhaaGreatDoor
end
end
