/-
  The feed of an element: the code's and the document's.
-/
import Derived.Test.YtlmmiaghbommcaaDoorRsG
namespace Go.Proofs.YtlmmiaghbommcaaDoor
open Go.ChangeShapes Go.WideShapes Go.ChangeAt Go.Deep
open Go.RowKit Go.Nst
set_option maxRecDepth 100000
set_option linter.unusedVariables false
set_option linter.unusedSimpArgs false

def sChan : List UInt8 := [99, 104, 97, 110, 110, 101, 108]
def sItem : List UInt8 := [105, 116, 101, 109]
def sRss : List UInt8 := [114, 115, 115]
/-- the entries of items, not too many -/
def entsD (l : List Elm) : List Ent := (l.filterMap entD).take 256
theorem fm_next {l : List Elm} {k : Nat} {q : Elm} (hg : l[k]? = some q) : (l.take (k + 1)).filterMap entD = (l.take k).filterMap entD ++ (entD q).toList := by
  rw [List.take_add_one, hg, List.filterMap_append]
  cases h : entD q <;> simp [h]
theorem ents_none {l : List Elm} {k : Nat} {q : Elm} (hg : l[k]? = some q) (h : entD q = none) : entsD (l.take (k + 1)) = entsD (l.take k) := by
  unfold entsD
  rw [fm_next hg, h]
  simp
theorem ents_some {l : List Elm} {k : Nat} {q : Elm} {x : Ent} (hg : l[k]? = some q) (h : entD q = some x) (hl : (entsD (l.take k)).length < 256) : entsD (l.take (k + 1)) = entsD (l.take k) ++ [x] := by
  unfold entsD at hl ⊢
  rw [fm_next hg, h]
  rw [List.length_take] at hl
  rw [List.take_of_length_le (l := (l.take k).filterMap entD) (by omega), List.take_of_length_le (by simp; omega)]
  rfl
theorem ents_full {l : List Elm} {k : Nat} {q : Elm} {x : Ent} (hg : l[k]? = some q) (h : entD q = some x) (hl : ¬ (entsD (l.take k)).length < 256) : entsD (l.take (k + 1)) = entsD (l.take k) := by
  unfold entsD at hl ⊢
  rw [fm_next hg, h]
  rw [List.length_take] at hl
  rw [List.take_append_of_le_length (by omega)]
theorem ents_le (l : List Elm) : (entsD l).length ≤ 256 := by
  unfold entsD
  rw [List.length_take]
  omega
def readD (e : Elm) : Option Docs := if hasD e sChan = true ∧ shortD e.nm = sRss then some ⟨fieldD (kidD e sChan) sTitle 256, fieldD (kidD e sChan) sLink 512, entsD (kidsD (kidD e sChan) sItem)⟩ else none
def zeroDoc : Docs := ⟨[], [], []⟩
def RetDo (w : World) (o : Option Docs) (e : Ending) (w' : World) : Prop := ∃ A n c, e = .returned (.tuple #[.agg #[.string ⟨(o.getD zeroDoc).ti.toArray⟩, .string ⟨(o.getD zeroDoc).li.toArray⟩, .slice A n c], .bool o.isSome]) ∧ EnA w' (fun _ => True) A n (o.getD zeroDoc).en ∧ n ≤ c ∧ c ≤ 9223372036854775807 ∧ Below w.heap.size w w'
theorem grown_belE {a b c : World} {g : Nat} (h : a.grownBy b (some g)) (k : Below a.heap.size b c) : a.grownBy c (some g) :=
  ⟨k.os.trans h.os, k.tape.trans h.tape, k.output.trans h.output, Nat.le_trans h.size k.size, fun i hi hne => (k.block i hi).trans (h.block i hi hne)⟩
theorem sm_kids {n : Nat} {e : Elm} (h : SmE (n + 1) e) (s : List UInt8) : ∀ k ∈ kidsD e s, SmE n k := fun k hk => h.2.2.2 k (List.mem_filter.1 hk).1
theorem sm_down : ∀ {n : Nat} {e : Elm}, SmE (n + 1) e → SmE n e
  | 0, _, _ => trivial
  | n + 1, e, h => ⟨h.1, h.2.1, h.2.2.1, fun k hk => sm_down (h.2.2.2 k hk)⟩
set_option maxHeartbeats 8000000 in
theorem Read10_any (e : Elm) (A B : Option Addr) (c d : Nat) (m : Int) (w : World) (S : Nat → Prop) (he : EmF w S e A c B d) (hsm : SmE 12 e) (hM : MM m w) :
    Calls Tryd.prog 8 #[.agg (emV e A e.ats.length c B e.kids.length d)] w (RetDo w (readD e)) := by
  have b2 := bel_alloc (bel_alloc (Below.refl w.heap.size w) (.cells (emV e A e.ats.length c B e.kids.length d) 30)) (.cells #[.string ⟨#[]⟩, .string ⟨#[]⟩, .slice none 0 0] 24)
  have k1 := (Blk.new w 30 (emV e A e.ats.length c B e.kids.length d)).alloc (.cells #[.string ⟨#[]⟩, .string ⟨#[]⟩, .slice none 0 0] 24)
  have k2 := Blk.new (w.alloc (.cells (emV e A e.ats.length c B e.kids.length d) 30)) 24 #[.string ⟨#[]⟩, .string ⟨#[]⟩, .slice none 0 0]
  rw [show (w.alloc (.cells (emV e A e.ats.length c B e.kids.length d) 30)).heap.size = w.heap.size + 1 by simp] at k2
  have hz : ((w.alloc (.cells (emV e A e.ats.length c B e.kids.length d) 30)).alloc (.cells #[.string ⟨#[]⟩, .string ⟨#[]⟩, .slice none 0 0] 24)).heap.size = w.heap.size + 2 := by simp
  have he1 := em_bel (em_wide (S' := fun b => S b ∧ b < w.heap.size) he (fun b h k => ⟨h, k⟩)) b2
  have HC := Lib.hid (kid9_any e A B c d sChan _ _ he1)
  have HSM := Lib.hid hsm
  have hnm := he.hn
  have HS := Lib.hid (fun W => short9_any e.nm W (by omega))
  have HV : Hid (readD e = if hasD e sChan = true ∧ shortD e.nm = sRss then some ⟨fieldD (kidD e sChan) sTitle 256, fieldD (kidD e sChan) sLink 512, entsD (kidsD (kidD e sChan) sItem)⟩ else none) := Lib.hid rfl
  have HKS : Hid (SmE 11 (kidD e sChan)) := Lib.hid (kid_sm hsm sChan)
  have HM := Lib.hid hM
  obtain ⟨hca, hcb⟩ := he.hc
  obtain ⟨hda, hdb⟩ := he.hd
  clear he he1 hsm hM
  generalize hasD e sChan = hs at *
  generalize kidD e sChan = ch at *
  generalize shortD e.nm = sh at *
  generalize readD e = out at *
  simp only [emV, sChan, sRss] at *
  have B2 := Lib.hid b2
  have X := Lib.hid k1
  have K2 := Lib.hid k2
  have HZ := Lib.hid hz
  clear b2 k1 k2 hz
  go_enter Tryd.func8, Tryd.ntmps8
  go_upto_region 1 with fail
  generalize (w.alloc (.cells #[.string ⟨e.nm.toArray⟩, .slice A e.ats.length c, .string ⟨e.tx.toArray⟩, .slice B e.kids.length d] 30)).alloc (.cells #[.string ⟨#[]⟩, .string ⟨#[]⟩, .slice none 0 0] 24) = ws at *
  have hsz : ws.heap.size = w.heap.size + 2 := HZ.out
  have q0 := X.out.cell 0
  have q1 := X.out.cell 1
  have q2 := X.out.cell 2
  have q3 := X.out.cell 3
  simp at q0 q1 q2 q3
  go_wp2_with fail
  clear q0 q1 q2 q3
  (with_reducible refine (HC.out).mono ?_)
  rintro _ wa ⟨A1, c1, B1, d1, rfl, hF, hba⟩
  simp only [emV]
  obtain ⟨gc, hgc⟩ : ∃ gc, gc = wa.heap.size := ⟨_, rfl⟩
  have hbc := bel_alloc (Below.refl wa.heap.size wa) (.cells #[.string ⟨ch.nm.toArray⟩, .slice A1 ch.ats.length c1, .string ⟨ch.tx.toArray⟩, .slice B1 ch.kids.length d1] 30)
  have XC0 := Blk.new wa 30 #[.string ⟨ch.nm.toArray⟩, .slice A1 ch.ats.length c1, .string ⟨ch.tx.toArray⟩, .slice B1 ch.kids.length d1]
  rw [← hgc] at XC0
  have FC := Lib.hid (em_bel hF hbc)
  have B3 := Lib.hid (bel_step B2.out (bel_step hba hbc))
  have K3 := Lib.hid (K2.out.below (bel_step hba hbc) K2.out.lt)
  have X3 := Lib.hid (X.out.below (bel_step hba hbc) X.out.lt)
  have XC := Lib.hid XC0
  have HGC : Hid (ws.heap.size ≤ gc) := Lib.hid (by rw [hgc]; exact hba.size)
  clear hF hba hbc HC B2 K2 X XC0
  go_upto_region 2 with fail
  try simp only [← hgc]
  generalize wa.alloc (.cells #[.string ⟨ch.nm.toArray⟩, .slice A1 ch.ats.length c1, .string ⟨ch.tx.toArray⟩, .slice B1 ch.kids.length d1] 30) = wd at *
  clear hgc
  have x0 := X3.out.cell 0
  simp at x0
  cases hs with
  | false =>
    have HOUT : Hid (out = none) := Lib.hid (by rw [HV.out]; simp)
    have zf := K3.out.frozen
    have z0 := K3.out.cell 0
    have z1 := K3.out.cell 1
    have z2 := K3.out.cell 2
    simp at z0 z1 z2
    go_wp2_with fail
    have y := set3c K3.out rfl (.string ⟨#[]⟩) (.string ⟨#[]⟩) (.slice none 0 0)
    have y0 := y.cell 0
    have y1 := y.cell 1
    have y2 := y.cell 2
    simp at y0 y1 y2
    exact bodyPost_ret (v := .tuple #[.agg #[.string ⟨#[]⟩, .string ⟨#[]⟩, .slice none 0 0], .bool false]) (by simp [results, Tryd.results8, go_sem, y0, y1, y2]) rfl
      (show RetDo w out _ _ from by rw [HOUT.out]; exact ⟨none, 0, 0, rfl, RwA.nil _, Nat.le_refl _, by omega, bel3c B3.out (by omega) _ _ _⟩)
  | true =>
  by_cases hsh : sh = [114, 115, 115]
  · have HOUT : Hid (out = some ⟨fieldD ch sTitle 256, fieldD ch sLink 512, entsD (kidsD ch sItem)⟩) := Lib.hid (by rw [HV.out, hsh]; simp)
    subst hsh
    go_wp2_with fail
    (with_reducible refine (HS.out _).mono ?_)
    rintro _ wz ⟨rfl, rfl⟩
    have FC := Lib.hid (em_wide (S' := fun b => b < wz.heap.size) FC.out (fun b _ h => h))
    have HT := Lib.hid (fun W (h : Below wz.heap.size wz W) => field10_any ch A1 B1 c1 d1 sTitle 256 W _ (em_bel FC.out h) (kid_tx (n := 9) HKS.out _) (by omega) (by omega))
    have HL := Lib.hid (fun W (h : Below wz.heap.size wz W) => field10_any ch A1 B1 c1 d1 sLink 512 W _ (em_bel FC.out h) (kid_tx (n := 9) HKS.out _) (by omega) (by omega))
    have HI := Lib.hid (fun W (h : Below wz.heap.size wz W) => kids9_any ch A1 B1 c1 d1 sItem W _ (em_bel FC.out h))
    have hSK := sm_kids HKS.out sItem
    have HSK := Lib.hid hSK
    obtain ⟨hfa, hfb⟩ := FC.out.hc
    obtain ⟨hfc, hfd⟩ := FC.out.hd
    have HNK : Hid ((kidsD ch sItem).length ≤ 1100000) := Lib.hid (Nat.le_trans (kidsL_len _ _) FC.out.hs.2)
    clear hSK
    generalize fieldD ch sTitle 256 = ti at *
    generalize fieldD ch sLink 512 = li at *
    generalize kidsD ch sItem = L at *
    simp only [emV, sTitle, sLink, sItem] at HT HL HI
    go_upto_region 4 with fail
    go_cut [6] (fun s6 wx => ∃ gd, s6 = .pointer (some ⟨gd, 0, none⟩) ∧ wz.heap.size ≤ gd ∧ Blk wx gd 24 #[.string ⟨ti.toArray⟩, .string ⟨li.toArray⟩, .slice none 0 0] ∧ Below wz.heap.size wz wx)
    case first =>
      refine wp_region_ord wz.heap.size (by kernel_rfl) (.take 0 (.take 2 (.two 1 (.two 3 (.take 4 (.exec 5 (.exec 6 (.nil)))) 5 (.exec 3 (.take 4 (.exec 6 (.nil))))) 5 (.exec 1 (.exec 3 (.take 4 (.exec 6 (.nil)))))))) (by kernel_rfl) (by kernel_rfl) (by kernel_rfl) ?_
      intro w0 hb0 hz0
      have BQ0 := Lib.hid hb0
      have y0 := fun W (hW : Below wz.heap.size w0 W) => (show W.cell? ⟨gc, 0, none⟩ = some (.string ⟨ch.nm.toArray⟩) from ((XC.out.below (hb0.trans hW) XC.out.lt).cell 0).trans rfl)
      have y1 := fun W (hW : Below wz.heap.size w0 W) => (show W.cell? ⟨gc, 1, none⟩ = some (.slice A1 ch.ats.length c1) from ((XC.out.below (hb0.trans hW) XC.out.lt).cell 1).trans rfl)
      have y2 := fun W (hW : Below wz.heap.size w0 W) => (show W.cell? ⟨gc, 2, none⟩ = some (.string ⟨ch.tx.toArray⟩) from ((XC.out.below (hb0.trans hW) XC.out.lt).cell 2).trans rfl)
      have y3 := fun W (hW : Below wz.heap.size w0 W) => (show W.cell? ⟨gc, 3, none⟩ = some (.slice B1 ch.kids.length d1) from ((XC.out.below (hb0.trans hW) XC.out.lt).cell 3).trans rfl)
      iterate 2 (refine wpOrd_take (o := ⟨_, _, _, _, _, _⟩) (v := ?_) rfl rfl ?_ ?_; rotate_left; (focus (intro W hW; go_simp; first | done | with_reducible rfl)); simp only [Act.put, List.setIfInBounds_toArray, List.set_cons_zero, List.set_cons_succ])
      clear hb0 hz0
      clear y0 y1 y2 y3
      refine wpOrd_two ?_ ?_
      · have CN := Lib.hid (HT.out w0 BQ0.out)
        refine wpOrd_exec (o := ⟨_, _, _, _, _, _⟩) rfl rfl (fun K hK => ?_)
        go_simp
        (with_reducible refine (CN.out).mono ?_)
        rintro _ wo1 ⟨rfl, bo2⟩
        go_wp2_with fail
        refine hK _ _ (bo2.mono BQ0.out.size) ?_
        clear hK K CN
        have BQx3 := Lib.hid (BQ0.out.trans (bo2.mono BQ0.out.size))
        clear bo2
        refine wpOrd_two ?_ ?_
        · have CN := Lib.hid (HL.out wo1 BQx3.out)
          refine wpOrd_exec (o := ⟨_, _, _, _, _, _⟩) rfl rfl (fun K hK => ?_)
          go_simp
          (with_reducible refine (CN.out).mono ?_)
          rintro _ wo4 ⟨rfl, bo5⟩
          go_wp2_with fail
          refine hK _ _ (bo5.mono BQx3.out.size) ?_
          clear hK K CN
          have BQx6 := Lib.hid (BQx3.out.trans (bo5.mono BQx3.out.size))
          clear bo5
          iterate 1 (refine wpOrd_take (o := ⟨_, _, _, _, _, _⟩) (v := ?_) rfl rfl ?_ ?_; rotate_left; (focus (intro W hW; go_simp; first | done | with_reducible rfl)); simp only [Act.put, List.setIfInBounds_toArray, List.set_cons_zero, List.set_cons_succ])
          refine wpOrd_exec (o := ⟨_, _, _, _, _, _⟩) rfl rfl (fun K hK => ?_)
          go_simp
          refine hK _ _ ((Below.refl _ _).alloc BQx6.out.size _) ?_
          clear hK K
          have hD := Blk.new wo4 24 #[.string ⟨#[]⟩, .string ⟨#[]⟩, .slice none 0 0]
          have BQx7 := Lib.hid (BQx6.out.trans ((bel_alloc (Below.refl wo4.heap.size wo4) (.cells #[.string ⟨#[]⟩, .string ⟨#[]⟩, .slice none 0 0] 24)).mono BQx6.out.size))
          obtain ⟨gd, hgd⟩ : ∃ gd, gd = wo4.heap.size := ⟨_, rfl⟩
          have hgB : wz.heap.size ≤ gd := by rw [hgd]; exact BQx6.out.size
          rw [← hgd] at hD
          try simp only [← hgd]
          generalize wo4.alloc (.cells #[.string ⟨#[]⟩, .string ⟨#[]⟩, .slice none 0 0] 24) = wo8 at *
          clear hgd
          have HD := Lib.hid hD
          clear hD
          have d0 := HD.out.cell 0
          have d1 := HD.out.cell 1
          have d2 := HD.out.cell 2
          simp at d0 d1 d2
          have hfz := HD.out.frozen
          refine wpOrd_exec (o := ⟨_, _, _, _, _, _⟩) rfl rfl (fun K hK => ?_)
          go_simp
          refine hK _ _ (bel3c (Below.refl _ _) hgB _ _ _) ?_
          clear hK K d0 d1 d2
          refine wpOrd_nil ?_
          have hE := set3c HD.out rfl (.string ⟨ti.toArray⟩) (.string ⟨li.toArray⟩) (.slice none 0 0)
          have hBE := bel3c (n := wz.heap.size) BQx7.out hgB (.string ⟨ti.toArray⟩) (.string ⟨li.toArray⟩) (.slice none 0 0)
          go_wp2_with fail
          go_meet
          exact ⟨gd, rfl, hgB, hE, hBE⟩
        · refine wpOrd_exec (o := ⟨_, _, _, _, _, _⟩) rfl rfl (fun K hK => ?_)
          go_simp
          refine hK _ _ ((Below.refl _ _).alloc BQx3.out.size _) ?_
          clear hK K
          have hD := Blk.new wo1 24 #[.string ⟨#[]⟩, .string ⟨#[]⟩, .slice none 0 0]
          have BQx9 := Lib.hid (BQx3.out.trans ((bel_alloc (Below.refl wo1.heap.size wo1) (.cells #[.string ⟨#[]⟩, .string ⟨#[]⟩, .slice none 0 0] 24)).mono BQx3.out.size))
          obtain ⟨gd, hgd⟩ : ∃ gd, gd = wo1.heap.size := ⟨_, rfl⟩
          have hgB : wz.heap.size ≤ gd := by rw [hgd]; exact BQx3.out.size
          rw [← hgd] at hD
          try simp only [← hgd]
          generalize wo1.alloc (.cells #[.string ⟨#[]⟩, .string ⟨#[]⟩, .slice none 0 0] 24) = wo10 at *
          clear hgd
          have HD := Lib.hid hD
          clear hD
          have CN := Lib.hid (HL.out wo10 BQx9.out)
          refine wpOrd_exec (o := ⟨_, _, _, _, _, _⟩) rfl rfl (fun K hK => ?_)
          go_simp
          (with_reducible refine (CN.out).mono ?_)
          rintro _ wo11 ⟨rfl, bo12⟩
          go_wp2_with fail
          refine hK _ _ (bo12.mono BQx9.out.size) ?_
          clear hK K CN
          have BQx13 := Lib.hid (BQx9.out.trans (bo12.mono BQx9.out.size))
          have HD := Lib.hid (HD.out.below bo12 HD.out.lt)
          clear bo12
          iterate 1 (refine wpOrd_take (o := ⟨_, _, _, _, _, _⟩) (v := ?_) rfl rfl ?_ ?_; rotate_left; (focus (intro W hW; go_simp; first | done | with_reducible rfl)); simp only [Act.put, List.setIfInBounds_toArray, List.set_cons_zero, List.set_cons_succ])
          have d0 := HD.out.cell 0
          have d1 := HD.out.cell 1
          have d2 := HD.out.cell 2
          simp at d0 d1 d2
          have hfz := HD.out.frozen
          refine wpOrd_exec (o := ⟨_, _, _, _, _, _⟩) rfl rfl (fun K hK => ?_)
          go_simp
          refine hK _ _ (bel3c (Below.refl _ _) hgB _ _ _) ?_
          clear hK K d0 d1 d2
          refine wpOrd_nil ?_
          have hE := set3c HD.out rfl (.string ⟨ti.toArray⟩) (.string ⟨li.toArray⟩) (.slice none 0 0)
          have hBE := bel3c (n := wz.heap.size) BQx13.out hgB (.string ⟨ti.toArray⟩) (.string ⟨li.toArray⟩) (.slice none 0 0)
          go_wp2_with fail
          go_meet
          exact ⟨gd, rfl, hgB, hE, hBE⟩
      · refine wpOrd_exec (o := ⟨_, _, _, _, _, _⟩) rfl rfl (fun K hK => ?_)
        go_simp
        refine hK _ _ ((Below.refl _ _).alloc BQ0.out.size _) ?_
        clear hK K
        have hD := Blk.new w0 24 #[.string ⟨#[]⟩, .string ⟨#[]⟩, .slice none 0 0]
        have BQx14 := Lib.hid (BQ0.out.trans ((bel_alloc (Below.refl w0.heap.size w0) (.cells #[.string ⟨#[]⟩, .string ⟨#[]⟩, .slice none 0 0] 24)).mono BQ0.out.size))
        obtain ⟨gd, hgd⟩ : ∃ gd, gd = w0.heap.size := ⟨_, rfl⟩
        have hgB : wz.heap.size ≤ gd := by rw [hgd]; exact BQ0.out.size
        rw [← hgd] at hD
        try simp only [← hgd]
        generalize w0.alloc (.cells #[.string ⟨#[]⟩, .string ⟨#[]⟩, .slice none 0 0] 24) = wo15 at *
        clear hgd
        have HD := Lib.hid hD
        clear hD
        have CN := Lib.hid (HT.out wo15 BQx14.out)
        refine wpOrd_exec (o := ⟨_, _, _, _, _, _⟩) rfl rfl (fun K hK => ?_)
        go_simp
        (with_reducible refine (CN.out).mono ?_)
        rintro _ wo16 ⟨rfl, bo17⟩
        go_wp2_with fail
        refine hK _ _ (bo17.mono BQx14.out.size) ?_
        clear hK K CN
        have BQx18 := Lib.hid (BQx14.out.trans (bo17.mono BQx14.out.size))
        have HD := Lib.hid (HD.out.below bo17 HD.out.lt)
        clear bo17
        have CN := Lib.hid (HL.out wo16 BQx18.out)
        refine wpOrd_exec (o := ⟨_, _, _, _, _, _⟩) rfl rfl (fun K hK => ?_)
        go_simp
        (with_reducible refine (CN.out).mono ?_)
        rintro _ wo19 ⟨rfl, bo20⟩
        go_wp2_with fail
        refine hK _ _ (bo20.mono BQx18.out.size) ?_
        clear hK K CN
        have BQx21 := Lib.hid (BQx18.out.trans (bo20.mono BQx18.out.size))
        have HD := Lib.hid (HD.out.below bo20 HD.out.lt)
        clear bo20
        iterate 1 (refine wpOrd_take (o := ⟨_, _, _, _, _, _⟩) (v := ?_) rfl rfl ?_ ?_; rotate_left; (focus (intro W hW; go_simp; first | done | with_reducible rfl)); simp only [Act.put, List.setIfInBounds_toArray, List.set_cons_zero, List.set_cons_succ])
        have d0 := HD.out.cell 0
        have d1 := HD.out.cell 1
        have d2 := HD.out.cell 2
        simp at d0 d1 d2
        have hfz := HD.out.frozen
        refine wpOrd_exec (o := ⟨_, _, _, _, _, _⟩) rfl rfl (fun K hK => ?_)
        go_simp
        refine hK _ _ (bel3c (Below.refl _ _) hgB _ _ _) ?_
        clear hK K d0 d1 d2
        refine wpOrd_nil ?_
        have hE := set3c HD.out rfl (.string ⟨ti.toArray⟩) (.string ⟨li.toArray⟩) (.slice none 0 0)
        have hBE := bel3c (n := wz.heap.size) BQx21.out hgB (.string ⟨ti.toArray⟩) (.string ⟨li.toArray⟩) (.slice none 0 0)
        go_wp2_with fail
        go_meet
        exact ⟨gd, rfl, hgB, hE, hBE⟩
    case rest =>
    obtain ⟨gd, rfl, hgd, hD, hB4⟩ := hcut
    have HD4 := Lib.hid hD
    have HB4 := Lib.hid hB4
    have hgdl := hD.lt
    have q0 := (XC.out.below hB4 XC.out.lt).cell 0
    have q1 := (XC.out.below hB4 XC.out.lt).cell 1
    have q2 := (XC.out.below hB4 XC.out.lt).cell 2
    have q3 := (XC.out.below hB4 XC.out.lt).cell 3
    simp at q0 q1 q2 q3
    have HI4 := Lib.hid (HI.out _ hB4)
    clear hD hB4 HT HL HI
    go_wp2_with fail
    (with_reducible refine (HI4.out).mono ?_)
    rintro _ we ⟨AK, nK, cK, rfl, hA, hnK, hcK, hbe⟩
    have HLN := Lib.hid hA.len
    have hnK1 : nK ≤ 1100000 := by have := HLN.out; have := HNK.out; omega
    have hA1 := hA.wide emP (S' := fun b => b < we.heap.size ∧ b ≠ gd) (fun b hb hlt => ⟨hlt, by
      rcases hb with hb | hb
      · omega
      · omega⟩)
    have HA := Lib.hid hA1
    have HD5 := Lib.hid (HD4.out.below hbe HD4.out.lt)
    have hgde : gd < we.heap.size := HD5.out.lt
    have HB5 := Lib.hid (bel_step HB4.out hbe)
    have BW5 := Lib.hid (bel_step B3.out HB5.out)
    have K5 := Lib.hid (K3.out.below HB5.out K3.out.lt)
    have hwz : w.heap.size + 2 ≤ wz.heap.size := by have := K3.out.lt; have := HGC.out; have := XC.out.lt; omega
    have hwe : wz.heap.size ≤ we.heap.size := HB5.out.size
    clear hA hA1 hbe HI4 HD4 HB4 q0 q1 q2 q3 x0
    go_wp2_with fail
    go_loopw [33] (fun i wr => ∃ (k : Nat) (A' : Option Addr) (n c' : Nat), k ≤ nK ∧ i = .int .i64 k ∧ n ≤ 256 ∧ Blk wr gd 24 #[.string ⟨ti.toArray⟩, .string ⟨li.toArray⟩, .slice A' n c'] ∧ Hid (EnO wr we.heap.size (fun _ => False) A' n c' (entsD (L.take k))) ∧ Hid (we.grownBy wr (some gd))) (fun i _ => nK - (intOf i).toNat)
    case atStart => exact ⟨0, none, 0, 0, Nat.zero_le _, rfl, by omega, HD5.out, Lib.hid (by simp [entsD]; exact RwO.nil), Lib.hid (World.grownBy.refl _ _)⟩
    case round =>
      obtain ⟨k, A', n, c', hkn, rfl, hn, hD, HO, HG⟩ := hrel
      have HDr := Lib.hid hD
      have hcp1 := HO.out.cap.1
      have hcp2 := HO.out.cap.2
      have hbw : Below w.heap.size w wr := below_only BW5.out HG.out (by omega) BW5.out.size
      have HBW := Lib.hid hbw
      have hgz := HG.out.size
      clear hD hbw
      by_cases hlt : k < nK
      · obtain ⟨q, A2, c2, B2', d2, b, off, HQ, rfl, hS, hbs, HP, HF, f0, f1, f2, f3⟩ := em_at (HA.out.grown emP HG.out (fun g hg => by injection hg with hg; subst hg; exact fun h => h.2 rfl)) hlt
        have hlt' : decide (k < nK) = true := by simpa using hlt
        have hki : (k : Int) < (nK : Int) := by omega
        have hqsm : SmE 10 q := HSK.out q (List.mem_of_getElem? HQ.out)
        obtain ⟨hqc1, hqc2⟩ := HF.out.hc
        obtain ⟨hqd1, hqd2⟩ := HF.out.hd
        have hbq := bel_alloc (Below.refl wr.heap.size wr) (.cells (emV q A2 q.ats.length c2 B2' q.kids.length d2) 30)
        have HE := Lib.hid ((Entry10_any q A2 B2' c2 d2 m _ _ (em_bel HF.out hbq) (sm_down (sm_down hqsm)) (HM.out.keep (bel_step HBW.out hbq))).mono (fun e' w' h => (show e' = .returned (enT (entD q)) ∧ Below (wr.alloc (.cells (emV q A2 q.ats.length c2 B2' q.kids.length d2) 30)).heap.size (wr.alloc (.cells (emV q A2 q.ats.length c2 B2' q.kids.length d2) 30)) w' from h)))
        have HBQ := Lib.hid hbq
        have HLE := Lib.hid (ents_le (L.take k))
        have HOL := Lib.hid HO.out.len
        simp only [emV] at HE HBQ
        clear HP hS HF hqsm hbq
        cases hq : entD q with
        | none =>
          have HN := Lib.hid (ents_none HQ.out hq)
          rw [hq] at HE
          simp only [enT, enV, zeroEnt, Option.getD_none, Option.isSome_none] at HE
          clear hq
          go_wp2_with fail
          (with_reducible refine (HE.out).mono ?_)
          rintro _ wq ⟨rfl, hb1⟩
          have hbx := bel_alloc (bel_step HBQ.out hb1) (.cells #[.string ⟨#[]⟩, .string ⟨#[]⟩, .string ⟨#[]⟩, .int .i64 0, .bool false] 37)
          have HBX := Lib.hid hbx
          clear hb1 hbx
          go_wp2_with fail
          go_roundw
          case rel => exact ⟨k + 1, A', n, c', by omega, by go_num, hn, HDr.out.below HBX.out HDr.out.lt, Lib.hid (by rw [HN.out]; exact HO.out.bel enP HBX.out), Lib.hid (grown_belE HG.out (HBX.out.mono hgz))⟩
          case measure => simp [intOf] <;> omega
        | some x =>
          rw [hq] at HE
          simp only [enT, Option.getD_some, Option.isSome_some] at HE
          by_cases hfull : n < 256
          · have hf1 : decide ((n : Int) < 256) = true := by simp; omega
            have HN := Lib.hid (ents_some HQ.out hq (by rw [HOL.out]; exact hfull))
            clear hq
            simp only [enV] at HE
            go_wp2_with fail
            (with_reducible refine (HE.out).mono ?_)
            rintro _ wq ⟨rfl, hb1⟩
            have hbx := bel_alloc (bel_step HBQ.out hb1) (.cells #[.string ⟨x.gu.toArray⟩, .string ⟨x.ti.toArray⟩, .string ⟨x.li.toArray⟩, .int .i64 x.da, .bool x.dd] 37)
            have hbx2 := bel_alloc hbx (.cells #[.string ⟨x.gu.toArray⟩, .string ⟨x.ti.toArray⟩, .string ⟨x.li.toArray⟩, .int .i64 x.da, .bool x.dd] 37)
            have z2 := (HDr.out.below hbx2 HDr.out.lt).cell 2
            have z2b := (HDr.out.below hbx HDr.out.lt).cell 2
            have z2c := (HDr.out.below (bel_step HBQ.out hb1) HDr.out.lt).cell 2
            simp at z2 z2b z2c
            have ho := HO.out.bel enP hbx2
            have hr : EnR ((wq.alloc (.cells #[.string ⟨x.gu.toArray⟩, .string ⟨x.ti.toArray⟩, .string ⟨x.li.toArray⟩, .int .i64 x.da, .bool x.dd] 37)).alloc (.cells #[.string ⟨x.gu.toArray⟩, .string ⟨x.ti.toArray⟩, .string ⟨x.li.toArray⟩, .int .i64 x.da, .bool x.dd] 37)) (fun b => False ∧ some b ≠ (Value.slice A' n c').ownBlock) (some ⟨wq.heap.size + 1, 0, none⟩) 1 [x] := by
              have hb2 := Blk.new (wq.alloc (.cells #[.string ⟨x.gu.toArray⟩, .string ⟨x.ti.toArray⟩, .string ⟨x.li.toArray⟩, .int .i64 x.da, .bool x.dd] 37)) 37 #[.string ⟨x.gu.toArray⟩, .string ⟨x.ti.toArray⟩, .string ⟨x.li.toArray⟩, .int .i64 x.da, .bool x.dd]
              rw [show (wq.alloc (.cells #[.string ⟨x.gu.toArray⟩, .string ⟨x.ti.toArray⟩, .string ⟨x.li.toArray⟩, .int .i64 x.da, .bool x.dd] 37)).heap.size = wq.heap.size + 1 by simp] at hb2
              exact RwR.blk1 hb2 rfl
            have hba : we.heap.size ≤ ((wq.alloc (.cells #[.string ⟨x.gu.toArray⟩, .string ⟨x.ti.toArray⟩, .string ⟨x.li.toArray⟩, .int .i64 x.da, .bool x.dd] 37)).alloc (.cells #[.string ⟨x.gu.toArray⟩, .string ⟨x.ti.toArray⟩, .string ⟨x.li.toArray⟩, .int .i64 x.da, .bool x.dd] 37)).heap.size := Nat.le_trans hgz hbx2.size
            have HX2 := Lib.hid hbx2
            clear hb1 hbx hbx2
            go_wp2_with (at_builtin; go_loud (refine wpList_appZ enP iEns rfl rfl rfl ho rfl hr (by omega) (by omega) hba ?_; intro A7 c7 w7 ho7 hb7 hgr7; have HB7 : Hid (Below we.heap.size wr w7) := Lib.hid ((HX2.out.mono hgz).trans hb7); have HG7 := Lib.hid (grown_belE HG.out HB7.out); have HD8 : Hid (Blk w7 gd 24 #[.string ⟨ti.toArray⟩, .string ⟨li.toArray⟩, .slice A' n c']) := Lib.hid (HDr.out.below HB7.out hgde); have e2 := HD8.out.cell 2; have ef := HD8.out.frozen; simp at e2; have HO7 := Lib.hid ho7; clear ho7 hb7 hgr7))
            go_roundw
            case rel =>
              refine ⟨k + 1, A7, n + 1, c7, by omega, by go_num, by omega, by simpa using HD8.out.set_ 2 (.slice A7 (n + 1) c7), Lib.hid ?_, Lib.hid (only_setCell HG7.out (.inl rfl) _)⟩
              rw [HN.out]
              refine HO7.out.grown enP (only_setCell (World.grownBy.refl _ _) (.inl rfl) _) (row := some gd) (fun g hg => ⟨fun h => h, fun he => ?_⟩)
              injection hg with hg
              have := (HO7.out.lt g he).1
              omega
            case measure => simp [intOf] <;> omega
          · have hf1 : decide ((n : Int) < 256) = false := by simp; omega
            have HN := Lib.hid (ents_full HQ.out hq (by rw [HOL.out]; exact hfull))
            clear hq
            simp only [enV] at HE
            go_wp2_with fail
            (with_reducible refine (HE.out).mono ?_)
            rintro _ wq ⟨rfl, hb1⟩
            have hbx := bel_alloc (bel_step HBQ.out hb1) (.cells #[.string ⟨x.gu.toArray⟩, .string ⟨x.ti.toArray⟩, .string ⟨x.li.toArray⟩, .int .i64 x.da, .bool x.dd] 37)
            have z2 := (HDr.out.below hbx HDr.out.lt).cell 2
            have z2c := (HDr.out.below (bel_step HBQ.out hb1) HDr.out.lt).cell 2
            simp at z2 z2c
            have HBX := Lib.hid hbx
            clear hb1 hbx
            go_wp2_with fail
            go_roundw
            case rel => exact ⟨k + 1, A', n, c', by omega, by go_num, hn, HDr.out.below HBX.out HDr.out.lt, Lib.hid (by rw [HN.out]; exact HO.out.bel enP HBX.out), Lib.hid (grown_belE HG.out (HBX.out.mono hgz))⟩
            case measure => simp [intOf] <;> omega
      · obtain rfl : k = nK := by omega
        have hlt' : decide (k < k) = false := by simp
        have HQ := Lib.hid (HO.out.qs enP (S' := fun b => we.heap.size ≤ b) (fun b h _ => h.elim) (fun b h _ => h))
        rw [List.take_of_length_le (by have := HLN.out; omega)] at HQ
        have K9 := Lib.hid (K5.out.grown HG.out (by intro hh; injection hh with hh; omega))
        have zf := K9.out.frozen
        have z0 := K9.out.cell 0
        have z1 := K9.out.cell 1
        have z2 := K9.out.cell 2
        have u0 := HDr.out.cell 0
        have u1 := HDr.out.cell 1
        have u2 := HDr.out.cell 2
        simp at z0 z1 z2 u0 u1 u2
        clear HO HG
        go_wp2_with fail
        have y := set3c K9.out rfl (.string ⟨ti.toArray⟩) (.string ⟨li.toArray⟩) (.slice A' n c')
        have y0 := y.cell 0
        have y1 := y.cell 1
        have y2 := y.cell 2
        simp at y0 y1 y2
        exact bodyPost_ret (v := .tuple #[.agg #[.string ⟨ti.toArray⟩, .string ⟨li.toArray⟩, .slice A' n c'], .bool true]) (by simp [results, Tryd.results8, go_sem, y0, y1, y2]) rfl
          (show RetDo w out _ _ from by
            rw [HOUT.out]
            refine ⟨A', n, c', rfl, HQ.out.keep enP (fun b hb hlt => ?_) (by simp [World.setCell]) (fun _ _ _ => trivial), hcp1, hcp2, bel3c HBW.out (by omega) _ _ _⟩
            have hbn : b ≠ w.heap.size + 1 := by omega
            simp [World.setCell, Array.getElem?_modify, Ne.symm hbn])
  · have HOUT : Hid (out = none) := Lib.hid (by rw [HV.out]; simp [hsh])
    have hsb : (sh == [114, 115, 115]) = false := by simpa using hsh
    have zf := K3.out.frozen
    have z0 := K3.out.cell 0
    have z1 := K3.out.cell 1
    have z2 := K3.out.cell 2
    simp at z0 z1 z2
    go_wp2_with fail
    (with_reducible refine (HS.out _).mono ?_)
    rintro _ wz ⟨rfl, rfl⟩
    go_wp2_with fail
    have y := set3c K3.out rfl (.string ⟨#[]⟩) (.string ⟨#[]⟩) (.slice none 0 0)
    have y0 := y.cell 0
    have y1 := y.cell 1
    have y2 := y.cell 2
    simp at y0 y1 y2
    exact bodyPost_ret (v := .tuple #[.agg #[.string ⟨#[]⟩, .string ⟨#[]⟩, .slice none 0 0], .bool false]) (by simp [results, Tryd.results8, go_sem, y0, y1, y2]) rfl
      (show RetDo w out _ _ from by rw [HOUT.out]; exact ⟨none, 0, 0, rfl, RwA.nil _, Nat.le_refl _, by omega, bel3c B3.out (by omega) _ _ _⟩)
end Go.Proofs.YtlmmiaghbommcaaDoor
