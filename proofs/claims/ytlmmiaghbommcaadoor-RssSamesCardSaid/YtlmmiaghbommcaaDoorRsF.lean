/-
  The entry of an element: the code's and the document's.
-/
import Derived.Test.YtlmmiaghbommcaaDoorRsE
namespace Go.Proofs.YtlmmiaghbommcaaDoor
open Go.ChangeShapes Go.WideShapes Go.ChangeAt Go.Deep
open Go.RowKit Go.Nst
set_option maxRecDepth 100000
set_option linter.unusedVariables false
set_option linter.unusedSimpArgs false

/-- an entry -/
structure Ent where
  gu : List UInt8
  ti : List UInt8
  li : List UInt8
  da : Int
  dd : Bool
deriving DecidableEq
def enV (x : Ent) : Array Value := #[.string ⟨x.gu.toArray⟩, .string ⟨x.ti.toArray⟩, .string ⟨x.li.toArray⟩, .int .i64 x.da, .bool x.dd]
def zeroEnt : Ent := ⟨[], [], [], 0, false⟩
def sGuid : List UInt8 := [103, 117, 105, 100]
def sTitle : List UInt8 := [116, 105, 116, 108, 101]
def sLink : List UInt8 := [108, 105, 110, 107]
def pubD : List (List UInt8) := [[112, 117, 98, 68, 97, 116, 101], [100, 97, 116, 101]]
/-- what an item is told apart by -/
def guidD (e : Elm) : List UInt8 := firstNe [fieldD e sGuid 512, fieldD e sLink 512, fieldD e sTitle 256]
def entD (e : Elm) : Option Ent := if guidD e = [] then none else some ⟨guidD e, fieldD e sTitle 256, fieldD e sLink 512, (momD e pubD).getD 0, (momD e pubD).isSome⟩
def enT (o : Option Ent) : Value := .tuple #[.agg (enV (o.getD zeroEnt)), .bool o.isSome]
def RetEn (w : World) (o : Option Ent) (e : Ending) (w' : World) : Prop := e = .returned (enT o) ∧ Below w.heap.size w w'
/-- block g may change, but its cells behind the first stay -/
def OnE (g B : Nat) (w W : World) : Prop := Below B w W ∧ ∀ i, 1 ≤ i → W.cell? ⟨g, i, none⟩ = w.cell? ⟨g, i, none⟩
theorem OnE.refl (g B : Nat) (w : World) : OnE g B w w := ⟨Below.refl _ _, fun _ _ => rfl⟩
theorem OnE.trans {g B : Nat} (a b c : World) (h : OnE g B a b) (k : OnE g B b c) : OnE g B a c := ⟨Below.trans h.1 k.1, fun i hi => (k.2 i hi).trans (h.2 i hi)⟩
theorem OnE.of {g B : Nat} {w W : World} (hb : Below w.heap.size w W) (hg : g < w.heap.size) (hB : B ≤ w.heap.size) : OnE g B w W := ⟨hb.mono hB, fun i _ => hb.cell (p := ⟨g, i, none⟩) hg⟩
theorem OnE.set {g B : Nat} {w : World} {t : TypeId} {cs : Array Value} (h : Blk w g t cs) (hB : B ≤ g) (v : Value) : OnE g B w (w.setCell ⟨g, 0, none⟩ v) :=
  ⟨(Below.refl _ _).setCell (p := ⟨g, 0, none⟩) hB v, fun i hi => by
    rw [(h.set_ 0 v).cell i, h.cell i, Array.getElem?_setIfInBounds_ne (by omega)]⟩
def sv3 (a b c : List UInt8) : Array Value := #[.string ⟨a.toArray⟩, .string ⟨b.toArray⟩, .string ⟨c.toArray⟩]
set_option maxHeartbeats 8000000 in
theorem Entry10_any (e : Elm) (A B : Option Addr) (c d : Nat) (m : Int) (w : World) (S : Nat → Prop) (he : EmF w S e A c B d) (hsm : SmE 8 e) (hM : MM m w) :
    Calls Tryd.prog 9 #[.agg (emV e A e.ats.length c B e.kids.length d)] w (RetEn w (entD e)) := by
  obtain ⟨bx, hbx⟩ : ∃ bx : Array Value, bx = emV e A e.ats.length c B e.kids.length d := ⟨_, rfl⟩
  have b1 := bel_alloc (Below.refl w.heap.size w) (.cells bx 30)
  have b2 := bel_alloc b1 (.cells #[.string ⟨#[]⟩, .string ⟨#[]⟩, .string ⟨#[]⟩, .int .i64 0, .bool false] 37)
  have k1 := Blk.new w 30 bx
  have k1 := k1.alloc (.cells #[.string ⟨#[]⟩, .string ⟨#[]⟩, .string ⟨#[]⟩, .int .i64 0, .bool false] 37)
  have k2 := Blk.new (w.alloc (.cells bx 30)) 37 #[.string ⟨#[]⟩, .string ⟨#[]⟩, .string ⟨#[]⟩, .int .i64 0, .bool false]
  rw [show (w.alloc (.cells bx 30)).heap.size = w.heap.size + 1 by simp] at k2
  have hz : ((w.alloc (.cells bx 30)).alloc (.cells #[.string ⟨#[]⟩, .string ⟨#[]⟩, .string ⟨#[]⟩, .int .i64 0, .bool false] 37)).heap.size = w.heap.size + 2 := by simp
  have HF := Lib.hid (fun W s (n : Int) (h0 : -9223372036854775808 ≤ n) (h1 : n ≤ 9223372036854775807) (h : Below w.heap.size w W) => field10_any e A B c d s n W S (em_bel he h) (kid_tx hsm s) h0 h1)
  have HMo := Lib.hid (fun W L AL n cL (hn : n ≤ 1000) (h : Below w.heap.size w W) (hL : Ss W AL n L) => Moment10_any e A B c d L AL n cL m W S (em_bel he h) hL hsm (hM.keep h) hn)
  have HBX : Hid (bx = emV e A e.ats.length c B e.kids.length d) := Lib.hid hbx
  have HV : Hid (guidD e = firstNe [fieldD e sGuid 512, fieldD e sLink 512, fieldD e sTitle 256] ∧ entD e = if guidD e = [] then none else some ⟨guidD e, fieldD e sTitle 256, fieldD e sLink 512, (momD e pubD).getD 0, (momD e pubD).isSome⟩) := Lib.hid ⟨rfl, rfl⟩
  have HG := Lib.hid (fun W h => HF.out W sGuid 512 (by omega) (by omega) h)
  have HT := Lib.hid (fun W h => HF.out W sTitle 256 (by omega) (by omega) h)
  have HK := Lib.hid (fun W h => HF.out W sLink 512 (by omega) (by omega) h)
  have HP := Lib.hid (fun W AL n cL hn h hL => HMo.out W pubD AL n cL hn h hL)
  obtain ⟨hca, hcb⟩ := he.hc
  obtain ⟨hda, hdb⟩ := he.hd
  rw [← hbx] at HG HT HK HP
  rw [← hbx]
  clear he hsm hM HF HMo b1
  generalize fieldD e sGuid 512 = gu at *
  generalize fieldD e sTitle 256 = ti at *
  generalize fieldD e sLink 512 = li at *
  generalize momD e pubD = mo at *
  generalize guidD e = gg at *
  generalize entD e = out at *
  have B2 := Lib.hid b2
  have X := Lib.hid k1
  have K2 := Lib.hid k2
  have HZ := Lib.hid hz
  clear b2 k1 k2 hz
  rw [HBX.out] at HG HT HK HP B2 X K2 HZ
  rw [hbx]
  clear hbx HBX
  simp only [emV, sGuid, sTitle, sLink] at *
  go_enter Tryd.func9, Tryd.ntmps9
  go_upto_region 1 with fail
  generalize (w.alloc (.cells #[.string ⟨e.nm.toArray⟩, .slice A e.ats.length c, .string ⟨e.tx.toArray⟩, .slice B e.kids.length d] 30)).alloc (.cells #[.string ⟨#[]⟩, .string ⟨#[]⟩, .string ⟨#[]⟩, .int .i64 0, .bool false] 37) = ws at *
  go_cut [4] (fun s4 wx => ∃ gx, s4 = .pointer (some ⟨gx, 0, none⟩) ∧ ws.heap.size ≤ gx ∧ Blk wx gx 37 #[.string ⟨#[]⟩, .string ⟨ti.toArray⟩, .string ⟨li.toArray⟩, .int .i64 0, .bool false] ∧ Below ws.heap.size ws wx)
  case first =>
    refine wp_region_ord ws.heap.size (by kernel_rfl) (.take 0 (.take 2 (.two 1 (.two 3 (.take 4 (.exec 5 (.exec 6 (.nil)))) 5 (.exec 3 (.take 4 (.exec 6 (.nil))))) 5 (.exec 1 (.exec 3 (.take 4 (.exec 6 (.nil)))))))) (by kernel_rfl) (by kernel_rfl) (by kernel_rfl) ?_
    intro w0 hb0 hz0
    have BQ0 := Lib.hid hb0
    have y0 := fun W (hW : Below ws.heap.size w0 W) => (show W.cell? ⟨w.heap.size, 0, none⟩ = some (.string ⟨e.nm.toArray⟩) from ((X.out.below (hb0.trans hW) X.out.lt).cell 0).trans rfl)
    have y1 := fun W (hW : Below ws.heap.size w0 W) => (show W.cell? ⟨w.heap.size, 1, none⟩ = some (.slice A e.ats.length c) from ((X.out.below (hb0.trans hW) X.out.lt).cell 1).trans rfl)
    have y2 := fun W (hW : Below ws.heap.size w0 W) => (show W.cell? ⟨w.heap.size, 2, none⟩ = some (.string ⟨e.tx.toArray⟩) from ((X.out.below (hb0.trans hW) X.out.lt).cell 2).trans rfl)
    have y3 := fun W (hW : Below ws.heap.size w0 W) => (show W.cell? ⟨w.heap.size, 3, none⟩ = some (.slice B e.kids.length d) from ((X.out.below (hb0.trans hW) X.out.lt).cell 3).trans rfl)
    iterate 2 (refine wpOrd_take (o := ⟨_, _, _, _, _, _⟩) (v := ?_) rfl rfl ?_ ?_; rotate_left; (focus (intro W hW; go_simp; first | done | with_reducible rfl)); simp only [Act.put, List.setIfInBounds_toArray, List.set_cons_zero, List.set_cons_succ])
    clear hb0 hz0
    clear y0 y1 y2 y3
    refine wpOrd_two ?_ ?_
    · have CN := Lib.hid (HT.out w0 (B2.out.trans (BQ0.out.mono B2.out.size)))
      refine wpOrd_exec (o := ⟨_, _, _, _, _, _⟩) rfl rfl (fun K hK => ?_)
      go_simp
      (with_reducible refine (CN.out).mono ?_)
      rintro _ wo1 ⟨rfl, bo2⟩
      go_wp2_with fail
      refine hK _ _ (bo2.mono BQ0.out.size) ?_
      clear hK K CN
      have BQx3 := Lib.hid (BQ0.out.trans (bo2.mono BQ0.out.size))
      clear bo2
      refine wpOrd_two ?_ ?_
      · have CN := Lib.hid (HK.out wo1 (B2.out.trans (BQx3.out.mono B2.out.size)))
        refine wpOrd_exec (o := ⟨_, _, _, _, _, _⟩) rfl rfl (fun K hK => ?_)
        go_simp
        (with_reducible refine (CN.out).mono ?_)
        rintro _ wo4 ⟨rfl, bo5⟩
        go_wp2_with fail
        refine hK _ _ (bo5.mono BQx3.out.size) ?_
        clear hK K CN
        have BQx6 := Lib.hid (BQx3.out.trans (bo5.mono BQx3.out.size))
        clear bo5
        iterate 1 (refine wpOrd_take (o := ⟨_, _, _, _, _, _⟩) (v := ?_) rfl rfl ?_ ?_; rotate_left; (focus (intro W hW; go_simp; first | done | with_reducible rfl)); simp only [Act.put, List.setIfInBounds_toArray, List.set_cons_zero, List.set_cons_succ])
        refine wpOrd_exec (o := ⟨_, _, _, _, _, _⟩) rfl rfl (fun K hK => ?_)
        go_simp
        refine hK _ _ ((Below.refl _ _).alloc BQx6.out.size _) ?_
        clear hK K
        have hD := Blk.new wo4 37 #[.string ⟨#[]⟩, .string ⟨#[]⟩, .string ⟨#[]⟩, .int .i64 0, .bool false]
        have BQx7 := Lib.hid (BQx6.out.trans ((bel_alloc (Below.refl wo4.heap.size wo4) (.cells #[.string ⟨#[]⟩, .string ⟨#[]⟩, .string ⟨#[]⟩, .int .i64 0, .bool false] 37)).mono BQx6.out.size))
        obtain ⟨gd, hgd⟩ : ∃ gd, gd = wo4.heap.size := ⟨_, rfl⟩
        have hgB : ws.heap.size ≤ gd := by rw [hgd]; exact BQx6.out.size
        rw [← hgd] at hD
        try simp only [← hgd]
        generalize wo4.alloc (.cells #[.string ⟨#[]⟩, .string ⟨#[]⟩, .string ⟨#[]⟩, .int .i64 0, .bool false] 37) = wo8 at *
        clear hgd
        have HD := Lib.hid hD
        clear hD
        have d0 := HD.out.cell 0
        have d1 := HD.out.cell 1
        have d2 := HD.out.cell 2
        have d3 := HD.out.cell 3
        have d4 := HD.out.cell 4
        simp at d0 d1 d2 d3 d4
        have hfz := HD.out.frozen
        refine wpOrd_exec (o := ⟨_, _, _, _, _, _⟩) rfl rfl (fun K hK => ?_)
        go_simp
        refine hK _ _ (bel5c (Below.refl _ _) hgB _ _ _ _ _) ?_
        clear hK K d0 d1 d2 d3 d4
        refine wpOrd_nil ?_
        have hE := set5c HD.out rfl (.string ⟨#[]⟩) (.string ⟨ti.toArray⟩) (.string ⟨li.toArray⟩) (.int .i64 0) (.bool false)
        have hBE := bel5c (n := ws.heap.size) BQx7.out hgB (.string ⟨#[]⟩) (.string ⟨ti.toArray⟩) (.string ⟨li.toArray⟩) (.int .i64 0) (.bool false)
        go_wp2_with fail
        go_meet
        exact ⟨gd, rfl, hgB, hE, hBE⟩
      · refine wpOrd_exec (o := ⟨_, _, _, _, _, _⟩) rfl rfl (fun K hK => ?_)
        go_simp
        refine hK _ _ ((Below.refl _ _).alloc BQx3.out.size _) ?_
        clear hK K
        have hD := Blk.new wo1 37 #[.string ⟨#[]⟩, .string ⟨#[]⟩, .string ⟨#[]⟩, .int .i64 0, .bool false]
        have BQx9 := Lib.hid (BQx3.out.trans ((bel_alloc (Below.refl wo1.heap.size wo1) (.cells #[.string ⟨#[]⟩, .string ⟨#[]⟩, .string ⟨#[]⟩, .int .i64 0, .bool false] 37)).mono BQx3.out.size))
        obtain ⟨gd, hgd⟩ : ∃ gd, gd = wo1.heap.size := ⟨_, rfl⟩
        have hgB : ws.heap.size ≤ gd := by rw [hgd]; exact BQx3.out.size
        rw [← hgd] at hD
        try simp only [← hgd]
        generalize wo1.alloc (.cells #[.string ⟨#[]⟩, .string ⟨#[]⟩, .string ⟨#[]⟩, .int .i64 0, .bool false] 37) = wo10 at *
        clear hgd
        have HD := Lib.hid hD
        clear hD
        have CN := Lib.hid (HK.out wo10 (B2.out.trans (BQx9.out.mono B2.out.size)))
        refine wpOrd_exec (o := ⟨_, _, _, _, _, _⟩) rfl rfl (fun K hK => ?_)
        go_simp
        (with_reducible refine (CN.out).mono ?_)
        rintro _ wo11 ⟨rfl, bo12⟩
        go_wp2_with fail
        refine hK _ _ (bo12.mono BQx9.out.size) ?_
        clear hK K CN
        have BQx13 := Lib.hid (BQx9.out.trans (bo12.mono BQx9.out.size))
        have HD := Lib.hid (HD.out.below bo12 HD.out.lt)
        clear bo12
        iterate 1 (refine wpOrd_take (o := ⟨_, _, _, _, _, _⟩) (v := ?_) rfl rfl ?_ ?_; rotate_left; (focus (intro W hW; go_simp; first | done | with_reducible rfl)); simp only [Act.put, List.setIfInBounds_toArray, List.set_cons_zero, List.set_cons_succ])
        have d0 := HD.out.cell 0
        have d1 := HD.out.cell 1
        have d2 := HD.out.cell 2
        have d3 := HD.out.cell 3
        have d4 := HD.out.cell 4
        simp at d0 d1 d2 d3 d4
        have hfz := HD.out.frozen
        refine wpOrd_exec (o := ⟨_, _, _, _, _, _⟩) rfl rfl (fun K hK => ?_)
        go_simp
        refine hK _ _ (bel5c (Below.refl _ _) hgB _ _ _ _ _) ?_
        clear hK K d0 d1 d2 d3 d4
        refine wpOrd_nil ?_
        have hE := set5c HD.out rfl (.string ⟨#[]⟩) (.string ⟨ti.toArray⟩) (.string ⟨li.toArray⟩) (.int .i64 0) (.bool false)
        have hBE := bel5c (n := ws.heap.size) BQx13.out hgB (.string ⟨#[]⟩) (.string ⟨ti.toArray⟩) (.string ⟨li.toArray⟩) (.int .i64 0) (.bool false)
        go_wp2_with fail
        go_meet
        exact ⟨gd, rfl, hgB, hE, hBE⟩
    · refine wpOrd_exec (o := ⟨_, _, _, _, _, _⟩) rfl rfl (fun K hK => ?_)
      go_simp
      refine hK _ _ ((Below.refl _ _).alloc BQ0.out.size _) ?_
      clear hK K
      have hD := Blk.new w0 37 #[.string ⟨#[]⟩, .string ⟨#[]⟩, .string ⟨#[]⟩, .int .i64 0, .bool false]
      have BQx14 := Lib.hid (BQ0.out.trans ((bel_alloc (Below.refl w0.heap.size w0) (.cells #[.string ⟨#[]⟩, .string ⟨#[]⟩, .string ⟨#[]⟩, .int .i64 0, .bool false] 37)).mono BQ0.out.size))
      obtain ⟨gd, hgd⟩ : ∃ gd, gd = w0.heap.size := ⟨_, rfl⟩
      have hgB : ws.heap.size ≤ gd := by rw [hgd]; exact BQ0.out.size
      rw [← hgd] at hD
      try simp only [← hgd]
      generalize w0.alloc (.cells #[.string ⟨#[]⟩, .string ⟨#[]⟩, .string ⟨#[]⟩, .int .i64 0, .bool false] 37) = wo15 at *
      clear hgd
      have HD := Lib.hid hD
      clear hD
      have CN := Lib.hid (HT.out wo15 (B2.out.trans (BQx14.out.mono B2.out.size)))
      refine wpOrd_exec (o := ⟨_, _, _, _, _, _⟩) rfl rfl (fun K hK => ?_)
      go_simp
      (with_reducible refine (CN.out).mono ?_)
      rintro _ wo16 ⟨rfl, bo17⟩
      go_wp2_with fail
      refine hK _ _ (bo17.mono BQx14.out.size) ?_
      clear hK K CN
      have BQx18 := Lib.hid (BQx14.out.trans (bo17.mono BQx14.out.size))
      have HD := Lib.hid (HD.out.below bo17 HD.out.lt)
      clear bo17
      have CN := Lib.hid (HK.out wo16 (B2.out.trans (BQx18.out.mono B2.out.size)))
      refine wpOrd_exec (o := ⟨_, _, _, _, _, _⟩) rfl rfl (fun K hK => ?_)
      go_simp
      (with_reducible refine (CN.out).mono ?_)
      rintro _ wo19 ⟨rfl, bo20⟩
      go_wp2_with fail
      refine hK _ _ (bo20.mono BQx18.out.size) ?_
      clear hK K CN
      have BQx21 := Lib.hid (BQx18.out.trans (bo20.mono BQx18.out.size))
      have HD := Lib.hid (HD.out.below bo20 HD.out.lt)
      clear bo20
      iterate 1 (refine wpOrd_take (o := ⟨_, _, _, _, _, _⟩) (v := ?_) rfl rfl ?_ ?_; rotate_left; (focus (intro W hW; go_simp; first | done | with_reducible rfl)); simp only [Act.put, List.setIfInBounds_toArray, List.set_cons_zero, List.set_cons_succ])
      have d0 := HD.out.cell 0
      have d1 := HD.out.cell 1
      have d2 := HD.out.cell 2
      have d3 := HD.out.cell 3
      have d4 := HD.out.cell 4
      simp at d0 d1 d2 d3 d4
      have hfz := HD.out.frozen
      refine wpOrd_exec (o := ⟨_, _, _, _, _, _⟩) rfl rfl (fun K hK => ?_)
      go_simp
      refine hK _ _ (bel5c (Below.refl _ _) hgB _ _ _ _ _) ?_
      clear hK K d0 d1 d2 d3 d4
      refine wpOrd_nil ?_
      have hE := set5c HD.out rfl (.string ⟨#[]⟩) (.string ⟨ti.toArray⟩) (.string ⟨li.toArray⟩) (.int .i64 0) (.bool false)
      have hBE := bel5c (n := ws.heap.size) BQx21.out hgB (.string ⟨#[]⟩) (.string ⟨ti.toArray⟩) (.string ⟨li.toArray⟩) (.int .i64 0) (.bool false)
      go_wp2_with fail
      go_meet
      exact ⟨gd, rfl, hgB, hE, hBE⟩
  case rest =>
  obtain ⟨gx, rfl, hgx, hX, hB3⟩ := hcut
  have HX := Lib.hid hX
  have HB3 := Lib.hid hB3
  have hxlt := hX.lt
  clear hX hB3
  go_upto_region 2 with fail
  go_cut [] (fun wx => Blk wx gx 37 #[.string ⟨gg.toArray⟩, .string ⟨ti.toArray⟩, .string ⟨li.toArray⟩, .int .i64 0, .bool false] ∧ Below ws.heap.size ws wx)
  case first =>
    refine wp_region_ordR (OnE gx ws.heap.size) (OnE.refl gx ws.heap.size) (OnE.trans) (by kernel_rfl) (.take 0 (.take 2 (.take 3 (.take 4 (.take 5 (.exec 1 (.exec 6 (.exec 7 (.take 8 (.exec 9 (.nil))))))))))) (by kernel_rfl) (by kernel_rfl) (by kernel_rfl) ?_
    obtain ⟨w0, hw0⟩ : ∃ w0, w0 = wc.drew := ⟨_, rfl⟩
    have BQ : Below ws.heap.size ws w0 := by rw [hw0]; exact HB3.out.drew
    have HX0 : Blk w0 gx 37 #[.string ⟨#[]⟩, .string ⟨ti.toArray⟩, .string ⟨li.toArray⟩, .int .i64 0, .bool false] := by rw [hw0]; exact HX.out.drew
    rw [← hw0]
    clear hw0
    have y0 := fun W (hW : OnE gx ws.heap.size w0 W) => (show W.cell? ⟨w.heap.size, 0, none⟩ = some (.string ⟨e.nm.toArray⟩) from ((X.out.below (BQ.trans hW.1) X.out.lt).cell 0).trans rfl)
    have y1 := fun W (hW : OnE gx ws.heap.size w0 W) => (show W.cell? ⟨w.heap.size, 1, none⟩ = some (.slice A e.ats.length c) from ((X.out.below (BQ.trans hW.1) X.out.lt).cell 1).trans rfl)
    have y2 := fun W (hW : OnE gx ws.heap.size w0 W) => (show W.cell? ⟨w.heap.size, 2, none⟩ = some (.string ⟨e.tx.toArray⟩) from ((X.out.below (BQ.trans hW.1) X.out.lt).cell 2).trans rfl)
    have y3 := fun W (hW : OnE gx ws.heap.size w0 W) => (show W.cell? ⟨w.heap.size, 3, none⟩ = some (.slice B e.kids.length d) from ((X.out.below (BQ.trans hW.1) X.out.lt).cell 3).trans rfl)
    have y4 := fun W (hW : OnE gx ws.heap.size w0 W) => (show W.cell? ⟨gx, 2, none⟩ = some (.string ⟨li.toArray⟩) from (hW.2 2 (by omega)).trans ((HX0.cell 2).trans rfl))
    have y5 := fun W (hW : OnE gx ws.heap.size w0 W) => (show W.cell? ⟨gx, 1, none⟩ = some (.string ⟨ti.toArray⟩) from (hW.2 1 (by omega)).trans ((HX0.cell 1).trans rfl))
    iterate 5 (refine wpOrd_take (o := ⟨_, _, _, _, _, _⟩) (v := ?_) rfl rfl ?_ ?_; rotate_left; (focus (intro W hW; go_simp; first | done | with_reducible rfl)); simp only [Act.put, List.setIfInBounds_toArray, List.set_cons_zero, List.set_cons_succ])
    clear y0 y1 y2 y3 y4 y5
    have BQ0 := Lib.hid BQ
    have HX1 := Lib.hid HX0
    clear BQ HX0
    have CN := Lib.hid (HG.out w0 (B2.out.trans (BQ0.out.mono B2.out.size)))
    refine wpOrd_exec (o := ⟨_, _, _, _, _, _⟩) rfl rfl (fun K hK => ?_)
    go_simp
    (with_reducible refine (CN.out).mono ?_)
    rintro _ wa ⟨rfl, hba⟩
    go_wp2_with fail
    refine hK _ _ (OnE.of hba HX1.out.lt BQ0.out.size) ?_
    clear hK K CN
    have BQ1 := Lib.hid (BQ0.out.trans (hba.mono BQ0.out.size))
    have HX2 := Lib.hid (HX1.out.below hba HX1.out.lt)
    clear hba HX1 BQ0
    refine wpOrd_exec (o := ⟨_, _, _, _, _, _⟩) rfl rfl (fun K hK => ?_)
    go_simp
    have hs3 := Ss.const wa [gu, li, ti] #[.string ⟨gu.toArray⟩, .string ⟨li.toArray⟩, .string ⟨ti.toArray⟩] 9 (0, 0) 3 rfl (by simp [sv])
    have hb3 := bel_alloc (Below.refl wa.heap.size wa) (.cells #[.string ⟨gu.toArray⟩, .string ⟨li.toArray⟩, .string ⟨ti.toArray⟩] 9)
    refine hK _ _ (OnE.of hb3 HX2.out.lt BQ1.out.size) ?_
    clear hK K
    have BQ2 := Lib.hid (BQ1.out.trans (hb3.mono BQ1.out.size))
    have HX3 := Lib.hid (HX2.out.below hb3 HX2.out.lt)
    have CN := Lib.hid (orS_any _ 3 3 _ _ hs3 (by omega))
    clear hs3 hb3 HX2 BQ1
    refine wpOrd_exec (o := ⟨_, _, _, _, _, _⟩) rfl rfl (fun K hK => ?_)
    go_simp
    (with_reducible refine (CN.out).mono ?_)
    rintro _ wb ⟨rfl, rfl⟩
    go_wp2_with fail
    refine hK _ _ (OnE.refl _ _ _) ?_
    clear hK K CN
    iterate 1 (refine wpOrd_take (o := ⟨_, _, _, _, _, _⟩) (v := ?_) rfl rfl ?_ ?_; rotate_left; (focus (intro W hW; go_simp; first | done | with_reducible rfl)); simp only [Act.put, List.setIfInBounds_toArray, List.set_cons_zero, List.set_cons_succ])
    have d0 := HX3.out.cell 0
    have hfz := HX3.out.frozen
    simp at d0
    refine wpOrd_exec (o := ⟨_, _, _, _, _, _⟩) rfl rfl (fun K hK => ?_)
    go_simp
    refine hK _ _ (OnE.set HX3.out hgx _) ?_
    clear hK K d0 hfz
    refine wpOrd_nil ?_
    have hE := HX3.out.set_ 0 (.string ⟨(firstNe [gu, li, ti]).toArray⟩)
    have hBE := BQ2.out.setCell (p := ⟨gx, 0, none⟩) hgx (.string ⟨(firstNe [gu, li, ti]).toArray⟩)
    go_wp2_with fail
    go_meet
    rw [HV.out.1]
    exact ⟨by simpa using hE, hBE⟩
  case rest =>
  obtain ⟨hX, hB4⟩ := hcut
  have HX4 := Lib.hid hX
  have HB4 := Lib.hid hB4
  have BW := Lib.hid (B2.out.trans (hB4.mono B2.out.size))
  have K4 := Lib.hid (K2.out.below hB4 K2.out.lt)
  have hgk : gx ≠ w.heap.size + 1 := by have := HZ.out; omega
  have hsz : ws.heap.size = w.heap.size + 2 := HZ.out
  clear HX HB3 hX hB4 hxlt
  have d0 := HX4.out.cell 0
  simp at d0
  by_cases hgg : gg = []
  · have HOUT : Hid (out = none) := Lib.hid (by rw [HV.out.2, if_pos hgg])
    subst hgg
    have zf := K4.out.frozen
    have z0 := K4.out.cell 0
    have z1 := K4.out.cell 1
    have z2 := K4.out.cell 2
    have z3 := K4.out.cell 3
    have z4 := K4.out.cell 4
    simp at z0 z1 z2 z3 z4
    go_wp2_with fail
    have y := set5c K4.out rfl (.string ⟨#[]⟩) (.string ⟨#[]⟩) (.string ⟨#[]⟩) (.int .i64 0) (.bool false)
    have y0 := y.cell 0
    have y1 := y.cell 1
    have y2 := y.cell 2
    have y3 := y.cell 3
    have y4 := y.cell 4
    simp at y0 y1 y2 y3 y4
    exact bodyPost_ret (v := enT none) (by simp [results, Tryd.results9, go_sem, enT, enV, zeroEnt, y0, y1, y2, y3, y4]) rfl
      (show RetEn w out _ _ from by rw [HOUT.out]; exact ⟨rfl, bel5c BW.out (by omega) _ _ _ _ _⟩)
  · obtain ⟨hx1, hx2⟩ := ne_b hgg
    have hout : out = some ⟨gg, ti, li, mo.getD 0, mo.isSome⟩ := by rw [HV.out.2, if_neg hgg]
    have HOUT := Lib.hid hout
    have x0 := (X.out.below HB4.out X.out.lt).cell 0
    have x1 := (X.out.below HB4.out X.out.lt).cell 1
    have x2 := (X.out.below HB4.out X.out.lt).cell 2
    have x3 := (X.out.below HB4.out X.out.lt).cell 3
    simp at x0 x1 x2 x3
    have hs2 := Ss.const wc pubD #[.string ⟨#[112, 117, 98, 68, 97, 116, 101]⟩, .string ⟨#[100, 97, 116, 101]⟩] 9 (0, 0) 2 rfl (by simp [sv, pubD])
    have hb2 := bel_alloc (Below.refl wc.heap.size wc) (.cells #[.string ⟨#[112, 117, 98, 68, 97, 116, 101]⟩, .string ⟨#[100, 97, 116, 101]⟩] 9)
    have CN := Lib.hid (HP.out _ _ 2 2 (by omega) (bel_step BW.out hb2) hs2)
    have BW5 := Lib.hid (bel_step BW.out hb2)
    have K5 := Lib.hid (K4.out.below hb2 K4.out.lt)
    have HX5 := Lib.hid (HX4.out.below hb2 HX4.out.lt)
    have HS5 : Hid (ws.heap.size ≤ wc.heap.size) := Lib.hid HB4.out.size
    simp only [znV] at CN
    clear hs2 hb2 hout HX4 K4 BW HB4
    go_wp2_with fail
    (with_reducible refine (CN.out).mono ?_)
    rintro _ wd ⟨rfl, hbd⟩
    have BW6 := Lib.hid (bel_step BW5.out hbd)
    have K6 := Lib.hid (K5.out.below hbd K5.out.lt)
    have HX6 := Lib.hid (HX5.out.below hbd HX5.out.lt)
    clear hbd BW5 K5 HX5 CN d0 x0 x1 x2 x3
    have zf := K6.out.frozen
    have z0 := K6.out.cell 0
    have z1 := K6.out.cell 1
    have z2 := K6.out.cell 2
    have z3 := K6.out.cell 3
    have z4 := K6.out.cell 4
    have xf := HX6.out.frozen
    have x0 := HX6.out.cell 0
    have x1 := HX6.out.cell 1
    have x2 := HX6.out.cell 2
    have x3 := HX6.out.cell 3
    have x4 := HX6.out.cell 4
    simp at z0 z1 z2 z3 z4 x0 x1 x2 x3 x4
    go_wp2_with fail
    have yk : Blk ((wd.setCell ⟨gx, 3, none⟩ (.int .i64 (mo.getD 0))).setCell ⟨gx, 4, none⟩ (.bool mo.isSome)) (w.heap.size + 1) 37 _ := (K6.out.far (p := ⟨gx, 3, none⟩) (Ne.symm hgk) _).far (p := ⟨gx, 4, none⟩) (Ne.symm hgk) _
    have y := set5c yk rfl (.string ⟨gg.toArray⟩) (.string ⟨ti.toArray⟩) (.string ⟨li.toArray⟩) (.int .i64 (mo.getD 0)) (.bool mo.isSome)
    have y0 := y.cell 0
    have y1 := y.cell 1
    have y2 := y.cell 2
    have y3 := y.cell 3
    have y4 := y.cell 4
    simp at y0 y1 y2 y3 y4
    exact bodyPost_ret (v := enT (some ⟨gg, ti, li, mo.getD 0, mo.isSome⟩)) (by simp [results, Tryd.results9, go_sem, enT, enV, y0, y1, y2, y3, y4]) rfl
      (show RetEn w out _ _ from by
        rw [HOUT.out]
        exact ⟨rfl, bel5c ((BW6.out.setCell (p := ⟨gx, 3, none⟩) (by show w.heap.size ≤ gx; omega) _).setCell (p := ⟨gx, 4, none⟩) (by show w.heap.size ≤ gx; omega) _) (by omega) _ _ _ _ _⟩)
end Go.Proofs.YtlmmiaghbommcaaDoor
