/-
  The feed of an element of the kind Atom: the code's and the document's (printed by gen_ate.py).
-/
import Derived.Test.YtjmmgekildlckaaAtA
import Derived.Test.YtjmmgekildlckaaRsH
namespace Go.Proofs.Ytjmmgekildlckaa
open Go.ChangeShapes Go.WideShapes Go.ChangeAt Go.Deep
open Go.RowKit Go.Nst
set_option maxRecDepth 100000
set_option linter.unusedVariables false
set_option linter.unusedSimpArgs false

def sFeedA : List UInt8 := [102, 101, 101, 100]
def sEntA : List UInt8 := [101, 110, 116, 114, 121]
/-- the entries of elements, not too many -/
def entsA (l : List Elm) : List Ent := (l.filterMap entA).take 256
theorem fmA_next {l : List Elm} {k : Nat} {q : Elm} (hg : l[k]? = some q) : (l.take (k + 1)).filterMap entA = (l.take k).filterMap entA ++ (entA q).toList := by
  rw [List.take_add_one, hg, List.filterMap_append]
  cases h : entA q <;> simp [h]
theorem entsA_none {l : List Elm} {k : Nat} {q : Elm} (hg : l[k]? = some q) (h : entA q = none) : entsA (l.take (k + 1)) = entsA (l.take k) := by
  unfold entsA
  rw [fmA_next hg, h]
  simp
theorem entsA_some {l : List Elm} {k : Nat} {q : Elm} {x : Ent} (hg : l[k]? = some q) (h : entA q = some x) (hl : (entsA (l.take k)).length < 256) : entsA (l.take (k + 1)) = entsA (l.take k) ++ [x] := by
  unfold entsA at hl ⊢
  rw [fmA_next hg, h]
  rw [List.length_take] at hl
  rw [List.take_of_length_le (l := (l.take k).filterMap entA) (by omega), List.take_of_length_le (by simp; omega)]
  rfl
theorem entsA_full {l : List Elm} {k : Nat} {q : Elm} {x : Ent} (hg : l[k]? = some q) (h : entA q = some x) (hl : ¬ (entsA (l.take k)).length < 256) : entsA (l.take (k + 1)) = entsA (l.take k) := by
  unfold entsA at hl ⊢
  rw [fmA_next hg, h]
  rw [List.length_take] at hl
  rw [List.take_append_of_le_length (by omega)]
theorem entsA_le (l : List Elm) : (entsA l).length ≤ 256 := by
  unfold entsA
  rw [List.length_take]
  omega
def readA (e : Elm) : Option Docs := if shortD e.nm = sFeedA then some ⟨fieldD e sTitA 256, lnkD e, entsA (kidsD e sEntA)⟩ else none
/-- entries handed back -/
def RetEts (w : World) (l : List Ent) (e : Ending) (w' : World) : Prop := ∃ A n c, e = .returned (.slice A n c) ∧ EnA w' (fun b => w.heap.size ≤ b) A n l ∧ n ≤ c ∧ c ≤ 9223372036854775807 ∧ Below w.heap.size w w'
set_option maxHeartbeats 8000000 in
theorem entries11_any (L : List Elm) (AK : Option Addr) (nK cK : Nat) (w : World) (S : Nat → Prop) (hA : EmA w S AK nK L) (hnK : nK ≤ cK) (hcK : cK ≤ 9223372036854775807) (hS : ∀ k ∈ L, SmE 8 k) (hL : nK ≤ 1100000) :
    Calls Try.prog 16 #[.slice AK nK cK] w (RetEts w (entsA L)) := by
  have HA := Lib.hid hA
  have HLN := Lib.hid hA.len
  have HSK := Lib.hid hS
  clear hA hS
  go_enter Try.func16, Try.ntmps16
  go_wp2_with fail
  go_loopw [3, 10] (fun v i wr => ∃ (k : Nat) (A' : Option Addr) (n c' : Nat), k ≤ nK ∧ i = .int .i64 k ∧ v = .slice A' n c' ∧ n ≤ 256 ∧ Hid (EnO wr w.heap.size (fun _ => False) A' n c' (entsA (L.take k))) ∧ Hid (Below w.heap.size w wr)) (fun _ i _ => nK - (intOf i).toNat)
  case atStart => exact ⟨0, none, 0, 0, Nat.zero_le _, rfl, rfl, by omega, Lib.hid (by simp [entsA]; exact RwO.nil), Lib.hid (Below.refl _ _)⟩
  case round =>
    obtain ⟨k, A', n, c', hkn, rfl, rfl, hn, HO, HB⟩ := hrel
    have hcp1 := HO.out.cap.1
    have hcp2 := HO.out.cap.2
    have hgz := HB.out.size
    by_cases hlt : k < nK
    · obtain ⟨q, A2, c2, B2, d2, b, off, HQ, rfl, hS, hbs, HP, HF, f0, f1, f2, f3⟩ := em_at (HA.out.bel emP HB.out) hlt
      have hlt' : decide (k < nK) = true := by simpa using hlt
      have hki : (k : Int) < (nK : Int) := by omega
      have hqsm : SmE 8 q := HSK.out q (List.mem_of_getElem? HQ.out)
      obtain ⟨hqc1, hqc2⟩ := HF.out.hc
      obtain ⟨hqd1, hqd2⟩ := HF.out.hd
      have hbq := bel_alloc (Below.refl wr.heap.size wr) (.cells (emV q A2 q.ats.length c2 B2 q.kids.length d2) 25)
      have HE := Lib.hid ((Entry11_any q A2 B2 c2 d2 _ _ (em_bel HF.out hbq) hqsm).mono (fun e' w' h => (show e' = .returned (enT (entA q)) ∧ Below (wr.alloc (.cells (emV q A2 q.ats.length c2 B2 q.kids.length d2) 25)).heap.size (wr.alloc (.cells (emV q A2 q.ats.length c2 B2 q.kids.length d2) 25)) w' from h)))
      have HBQ := Lib.hid hbq
      have XQ := Lib.hid (Blk.new wr 25 (emV q A2 q.ats.length c2 B2 q.kids.length d2))
      have HOL := Lib.hid HO.out.len
      simp only [emV] at HE HBQ XQ
      clear HP hS HF hqsm hbq
      have q0 := XQ.out.cell 0
      have q1 := XQ.out.cell 1
      have q2 := XQ.out.cell 2
      have q3 := XQ.out.cell 3
      simp at q0 q1 q2 q3
      cases hq : entA q with
      | none =>
        have HN := Lib.hid (entsA_none HQ.out hq)
        rw [hq] at HE
        simp only [enT, enV, zeroEnt, Option.getD_none, Option.isSome_none] at HE
        clear hq
        go_wp2_with fail
        (with_reducible refine (HE.out).mono ?_)
        rintro _ wq ⟨rfl, hb1⟩
        have hbx := bel_alloc (bel_step HBQ.out hb1) (.cells #[.string ⟨#[]⟩, .string ⟨#[]⟩, .string ⟨#[]⟩, .int .i64 0, .bool false] 41)
        have HBX := Lib.hid hbx
        clear hb1 hbx q0 q1 q2 q3 XQ
        go_wp2_with fail
        go_roundw
        case rel => exact ⟨k + 1, A', n, c', by omega, by go_num, rfl, hn, Lib.hid (by rw [HN.out]; exact HO.out.bel enP HBX.out), Lib.hid (HB.out.trans (HBX.out.mono hgz))⟩
        case measure => simp [intOf] <;> omega
      | some x =>
        rw [hq] at HE
        simp only [enT, Option.getD_some, Option.isSome_some] at HE
        by_cases hfull : n < 256
        · have hf1 : decide ((n : Int) < 256) = true := by simp; omega
          have HN := Lib.hid (entsA_some HQ.out hq (by rw [HOL.out]; exact hfull))
          clear hq
          simp only [enV] at HE
          go_wp2_with fail
          (with_reducible refine (HE.out).mono ?_)
          rintro _ wq ⟨rfl, hb1⟩
          have hbx := bel_alloc (bel_step HBQ.out hb1) (.cells #[.string ⟨x.gu.toArray⟩, .string ⟨x.ti.toArray⟩, .string ⟨x.li.toArray⟩, .int .i64 x.da, .bool x.dd] 41)
          have hbx2 := bel_alloc hbx (.cells #[.string ⟨x.gu.toArray⟩, .string ⟨x.ti.toArray⟩, .string ⟨x.li.toArray⟩, .int .i64 x.da, .bool x.dd] 41)
          have ho := HO.out.bel enP hbx2
          have hr : EnR ((wq.alloc (.cells #[.string ⟨x.gu.toArray⟩, .string ⟨x.ti.toArray⟩, .string ⟨x.li.toArray⟩, .int .i64 x.da, .bool x.dd] 41)).alloc (.cells #[.string ⟨x.gu.toArray⟩, .string ⟨x.ti.toArray⟩, .string ⟨x.li.toArray⟩, .int .i64 x.da, .bool x.dd] 41)) (fun b => False ∧ some b ≠ (Value.slice A' n c').ownBlock) (some ⟨wq.heap.size + 1, 0, none⟩) 1 [x] := by
            have hb2 := Blk.new (wq.alloc (.cells #[.string ⟨x.gu.toArray⟩, .string ⟨x.ti.toArray⟩, .string ⟨x.li.toArray⟩, .int .i64 x.da, .bool x.dd] 41)) 41 #[.string ⟨x.gu.toArray⟩, .string ⟨x.ti.toArray⟩, .string ⟨x.li.toArray⟩, .int .i64 x.da, .bool x.dd]
            rw [show (wq.alloc (.cells #[.string ⟨x.gu.toArray⟩, .string ⟨x.ti.toArray⟩, .string ⟨x.li.toArray⟩, .int .i64 x.da, .bool x.dd] 41)).heap.size = wq.heap.size + 1 by simp] at hb2
            exact RwR.blk1 hb2 rfl
          have hba : w.heap.size ≤ ((wq.alloc (.cells #[.string ⟨x.gu.toArray⟩, .string ⟨x.ti.toArray⟩, .string ⟨x.li.toArray⟩, .int .i64 x.da, .bool x.dd] 41)).alloc (.cells #[.string ⟨x.gu.toArray⟩, .string ⟨x.ti.toArray⟩, .string ⟨x.li.toArray⟩, .int .i64 x.da, .bool x.dd] 41)).heap.size := Nat.le_trans hgz hbx2.size
          have HX2 := Lib.hid hbx2
          clear hb1 hbx hbx2 q0 q1 q2 q3 XQ
          go_wp2_with (at_builtin; go_loud (refine wpList_appZ enP iEns rfl rfl rfl ho rfl hr (by omega) (by omega) hba ?_; intro A7 c7 w7 ho7 hb7 hgr7; have HB7 : Hid (Below w.heap.size wr w7) := Lib.hid ((HX2.out.mono hgz).trans hb7); have HO7 := Lib.hid ho7; clear ho7 hb7 hgr7))
          go_roundw
          case rel => exact ⟨k + 1, A7, n + 1, c7, by omega, by go_num, rfl, by omega, Lib.hid (by rw [HN.out]; exact HO7.out), Lib.hid (HB.out.trans HB7.out)⟩
          case measure => simp [intOf] <;> omega
        · have hf1 : decide ((n : Int) < 256) = false := by simp; omega
          have HN := Lib.hid (entsA_full HQ.out hq (by rw [HOL.out]; exact hfull))
          clear hq
          simp only [enV] at HE
          go_wp2_with fail
          (with_reducible refine (HE.out).mono ?_)
          rintro _ wq ⟨rfl, hb1⟩
          have hbx := bel_alloc (bel_step HBQ.out hb1) (.cells #[.string ⟨x.gu.toArray⟩, .string ⟨x.ti.toArray⟩, .string ⟨x.li.toArray⟩, .int .i64 x.da, .bool x.dd] 41)
          have HBX := Lib.hid hbx
          clear hb1 hbx q0 q1 q2 q3 XQ
          go_wp2_with fail
          go_roundw
          case rel => exact ⟨k + 1, A', n, c', by omega, by go_num, rfl, hn, Lib.hid (by rw [HN.out]; exact HO.out.bel enP HBX.out), Lib.hid (HB.out.trans (HBX.out.mono hgz))⟩
          case measure => simp [intOf] <;> omega
    · obtain rfl : k = nK := by omega
      have hlt' : decide (k < k) = false := by simp
      have HQ := Lib.hid (HO.out.qs enP (S' := fun b => w.heap.size ≤ b) (fun b h _ => h.elim) (fun b h _ => h))
      rw [List.take_of_length_le (by have := HLN.out; omega)] at HQ
      clear HO
      go_wp2_with fail
      go_ret
      exact ⟨A', n, c', rfl, HQ.out, hcp1, hcp2, HB.out⟩
set_option maxHeartbeats 8000000 in
theorem Read11_any (e : Elm) (A B : Option Addr) (c d : Nat) (w : World) (S : Nat → Prop) (he : EmF w S e A c B d) (hsm : SmE 12 e) :
    Calls Try.prog 7 #[.agg (emV e A e.ats.length c B e.kids.length d)] w (RetDo w (readA e)) := by
  have b2 := bel_alloc (bel_alloc (Below.refl w.heap.size w) (.cells (emV e A e.ats.length c B e.kids.length d) 25)) (.cells #[.string ⟨#[]⟩, .string ⟨#[]⟩, .slice none 0 0] 31)
  have k1 := (Blk.new w 25 (emV e A e.ats.length c B e.kids.length d)).alloc (.cells #[.string ⟨#[]⟩, .string ⟨#[]⟩, .slice none 0 0] 31)
  have k2 := Blk.new (w.alloc (.cells (emV e A e.ats.length c B e.kids.length d) 25)) 31 #[.string ⟨#[]⟩, .string ⟨#[]⟩, .slice none 0 0]
  rw [show (w.alloc (.cells (emV e A e.ats.length c B e.kids.length d) 25)).heap.size = w.heap.size + 1 by simp] at k2
  have hz : ((w.alloc (.cells (emV e A e.ats.length c B e.kids.length d) 25)).alloc (.cells #[.string ⟨#[]⟩, .string ⟨#[]⟩, .slice none 0 0] 31)).heap.size = w.heap.size + 2 := by simp
  have he1 := em_bel (em_wide (S' := fun b => b < w.heap.size) he (fun b h k => k)) b2
  have hnm := he.hn
  have HS := Lib.hid (fun W => short9_any e.nm W (by omega))
  have HV : Hid (readA e = if shortD e.nm = sFeedA then some ⟨fieldD e sTitA 256, lnkD e, entsA (kidsD e sEntA)⟩ else none) := Lib.hid rfl
  have FC := Lib.hid he1
  have HKS := Lib.hid hsm
  obtain ⟨hca, hcb⟩ := he.hc
  obtain ⟨hda, hdb⟩ := he.hd
  have HNK : Hid ((kidsD e sEntA).length ≤ 1100000) := Lib.hid (Nat.le_trans (kidsL_len _ _) he.hs.2)
  clear he he1 hsm
  generalize shortD e.nm = sh at *
  generalize readA e = out at *
  simp only [emV, sFeedA] at *
  have B2 := Lib.hid b2
  have X := Lib.hid k1
  have K2 := Lib.hid k2
  have HZ := Lib.hid hz
  clear b2 k1 k2 hz
  go_enter Try.func7, Try.ntmps7
  go_upto_region 1 with fail
  generalize (w.alloc (.cells #[.string ⟨e.nm.toArray⟩, .slice A e.ats.length c, .string ⟨e.tx.toArray⟩, .slice B e.kids.length d] 25)).alloc (.cells #[.string ⟨#[]⟩, .string ⟨#[]⟩, .slice none 0 0] 31) = ws at *
  have hwz0 : w.heap.size + 2 ≤ ws.heap.size := by have := HZ.out; omega
  have q0 := X.out.cell 0
  simp at q0
  by_cases hsh : sh = [102, 101, 101, 100]
  · have HOUT : Hid (out = some ⟨fieldD e sTitA 256, lnkD e, entsA (kidsD e sEntA)⟩) := Lib.hid (by rw [HV.out, hsh]; simp)
    subst hsh
    go_wp2_with fail
    (with_reducible refine (HS.out _).mono ?_)
    rintro _ wz ⟨rfl, rfl⟩
    have HT := Lib.hid (fun W (h : Below wz.heap.size wz W) => field10_any e A B c d sTitA 256 W _ (em_bel FC.out h) (kid_tx (n := 10) HKS.out _) (by omega) (by omega))
    have HL := Lib.hid (fun W (h : Below wz.heap.size wz W) => link11_any e A B c d W _ (em_bel FC.out h) (sm_down (sm_down (sm_down (sm_down HKS.out)))))
    have HI := Lib.hid (fun W (h : Below wz.heap.size wz W) => kids9_any e A B c d sEntA W _ (em_bel FC.out h))
    have HSK : Hid (∀ k ∈ kidsD e sEntA, SmE 8 k) := Lib.hid (fun k hk => sm_down (sm_down (sm_down (sm_kids HKS.out sEntA k hk))))
    generalize fieldD e sTitA 256 = ti at *
    generalize lnkD e = li at *
    generalize kidsD e sEntA = L at *
    simp only [emV, sTitA, sEntA] at HT HL HI
    clear q0
    go_upto_region 3 with fail
    refine wp_region_ordR (Below (w.heap.size + 1)) (fun _ => Below.refl _ _) (fun _ _ _ => Below.trans) (by kernel_rfl) (.take 0 (.take 2 (.take 4 (.exec 1 (.exec 3 (.exec 5 (.exec 6 (.take 7 (.exec 8 (.take 9 (.nil))))))))))) (by kernel_rfl) (by kernel_rfl) (by kernel_rfl) ?_
    obtain ⟨w0, hw0⟩ : ∃ w0, w0 = wz.drew := ⟨_, rfl⟩
    have BQ : Below wz.heap.size wz w0 := by rw [hw0]; exact (Below.refl _ _).drew
    rw [← hw0]
    clear hw0
    have XW := X.out.below BQ X.out.lt
    have y0 := fun W (hW : Below (w.heap.size + 1) w0 W) => (show W.cell? ⟨w.heap.size, 0, none⟩ = some (.string ⟨e.nm.toArray⟩) from ((XW.below hW (Nat.lt_succ_self _)).cell 0).trans rfl)
    have y1 := fun W (hW : Below (w.heap.size + 1) w0 W) => (show W.cell? ⟨w.heap.size, 1, none⟩ = some (.slice A e.ats.length c) from ((XW.below hW (Nat.lt_succ_self _)).cell 1).trans rfl)
    have y2 := fun W (hW : Below (w.heap.size + 1) w0 W) => (show W.cell? ⟨w.heap.size, 2, none⟩ = some (.string ⟨e.tx.toArray⟩) from ((XW.below hW (Nat.lt_succ_self _)).cell 2).trans rfl)
    have y3 := fun W (hW : Below (w.heap.size + 1) w0 W) => (show W.cell? ⟨w.heap.size, 3, none⟩ = some (.slice B e.kids.length d) from ((XW.below hW (Nat.lt_succ_self _)).cell 3).trans rfl)
    iterate 3 (refine wpOrd_take (o := ⟨_, _, _, _, _, _⟩) (v := ?_) rfl rfl ?_ ?_; rotate_left; (focus (intro W hW; go_simp; first | done | with_reducible rfl)); simp only [Act.put, List.setIfInBounds_toArray, List.set_cons_zero, List.set_cons_succ])
    clear y0 y1 y2 y3 XW
    have BQ0 := Lib.hid BQ
    clear BQ
    have CN := Lib.hid (HT.out w0 BQ0.out)
    refine wpOrd_exec (o := ⟨_, _, _, _, _, _⟩) rfl rfl (fun K hK => ?_)
    go_simp
    (with_reducible refine (CN.out).mono ?_)
    rintro _ wa ⟨rfl, hba⟩
    go_wp2_with fail
    refine hK _ _ (hba.mono (by have := BQ0.out.size; omega)) ?_
    clear hK K CN
    have BQ1 := Lib.hid (bel_step BQ0.out hba)
    clear hba BQ0
    have CN := Lib.hid (HL.out wa BQ1.out)
    refine wpOrd_exec (o := ⟨_, _, _, _, _, _⟩) rfl rfl (fun K hK => ?_)
    go_simp
    (with_reducible refine (CN.out).mono ?_)
    rintro _ wb ⟨rfl, hbb⟩
    go_wp2_with fail
    refine hK _ _ (hbb.mono (by have := BQ1.out.size; omega)) ?_
    clear hK K CN
    have BQ2 := Lib.hid (bel_step BQ1.out hbb)
    clear hbb BQ1
    have CN := Lib.hid (HI.out wb BQ2.out)
    refine wpOrd_exec (o := ⟨_, _, _, _, _, _⟩) rfl rfl (fun K hK => ?_)
    go_simp
    (with_reducible refine (CN.out).mono ?_)
    rintro _ we ⟨AK, nK, cK, rfl, hA, hnK, hcK, hbe⟩
    go_wp2_with fail
    refine hK _ _ (hbe.mono (by have := BQ2.out.size; omega)) ?_
    clear hK K CN
    have BQ3 := Lib.hid (bel_step BQ2.out hbe)
    have CN := Lib.hid (entries11_any L AK nK cK we _ hA hnK hcK HSK.out (by have := hA.len; have := HNK.out; omega))
    clear hbe BQ2 hA
    refine wpOrd_exec (o := ⟨_, _, _, _, _, _⟩) rfl rfl (fun K hK => ?_)
    go_simp
    (with_reducible refine (CN.out).mono ?_)
    rintro _ wf ⟨AE, nE, cE, rfl, hE, hnE, hcE, hbf⟩
    go_wp2_with fail
    refine hK _ _ (hbf.mono (by have := BQ3.out.size; omega)) ?_
    clear hK K CN
    have BQ4 := Lib.hid (bel_step BQ3.out hbf)
    have HBX := Lib.hid (bel_step B2.out BQ4.out)
    have K4 := Lib.hid (K2.out.below BQ4.out K2.out.lt)
    have hwe : w.heap.size + 2 ≤ we.heap.size := by have := BQ3.out.size; omega
    have HE := Lib.hid hE
    clear hbf BQ3 hE
    iterate 1 (refine wpOrd_take (o := ⟨_, _, _, _, _, _⟩) (v := ?_) rfl rfl ?_ ?_; rotate_left; (focus (intro W hW; go_simp; first | done | with_reducible rfl)); simp only [Act.put, List.setIfInBounds_toArray, List.set_cons_zero, List.set_cons_succ])
    have d0 := K4.out.cell 0
    have d1 := K4.out.cell 1
    have d2 := K4.out.cell 2
    simp at d0 d1 d2
    have hfz := K4.out.frozen
    refine wpOrd_exec (o := ⟨_, _, _, _, _, _⟩) rfl rfl (fun K hK => ?_)
    go_simp
    refine hK _ _ (bel3c (Below.refl _ _) (Nat.le_refl _) _ _ _) ?_
    clear hK K d0 d1 d2
    iterate 1 (refine wpOrd_take (o := ⟨_, _, _, _, _, _⟩) (v := ?_) rfl rfl ?_ ?_; rotate_left; (focus (intro W hW; go_simp; first | done | with_reducible rfl)); simp only [Act.put, List.setIfInBounds_toArray, List.set_cons_zero, List.set_cons_succ])
    refine wpOrd_nil ?_
    go_wp2_with fail
    have y := set3c K4.out rfl (.string ⟨ti.toArray⟩) (.string ⟨li.toArray⟩) (.slice AE nE cE)
    have y0 := y.cell 0
    have y1 := y.cell 1
    have y2 := y.cell 2
    simp at y0 y1 y2
    exact bodyPost_ret (v := .tuple #[.agg #[.string ⟨ti.toArray⟩, .string ⟨li.toArray⟩, .slice AE nE cE], .bool true]) (by simp [results, Try.results7, go_sem, y0, y1, y2]) rfl
      (show RetDo w out _ _ from by
        rw [HOUT.out]
        refine ⟨AE, nE, cE, rfl, HE.out.keep enP (fun b hb hlt => ?_) (by simp [World.setCell]) (fun _ _ _ => trivial), hnE, hcE, bel3c HBX.out (by omega) _ _ _⟩
        have hbn : b ≠ w.heap.size + 1 := by omega
        simp [World.setCell, Array.getElem?_modify, Ne.symm hbn])
  · have HOUT : Hid (out = none) := Lib.hid (by rw [HV.out]; simp [hsh])
    have hsb : (sh == [102, 101, 101, 100]) = false := by simpa using hsh
    have zf := K2.out.frozen
    have z0 := K2.out.cell 0
    have z1 := K2.out.cell 1
    have z2 := K2.out.cell 2
    simp at z0 z1 z2
    go_wp2_with fail
    (with_reducible refine (HS.out _).mono ?_)
    rintro _ wz ⟨rfl, rfl⟩
    go_wp2_with fail
    have y := set3c K2.out rfl (.string ⟨#[]⟩) (.string ⟨#[]⟩) (.slice none 0 0)
    have y0 := y.cell 0
    have y1 := y.cell 1
    have y2 := y.cell 2
    simp at y0 y1 y2
    exact bodyPost_ret (v := .tuple #[.agg #[.string ⟨#[]⟩, .string ⟨#[]⟩, .slice none 0 0], .bool false]) (by simp [results, Try.results7, go_sem, y0, y1, y2]) rfl
      (show RetDo w out _ _ from by rw [HOUT.out]; exact ⟨none, 0, 0, rfl, RwA.nil _, Nat.le_refl _, by omega, bel3c B2.out (by omega) _ _ _⟩)
end Go.Proofs.Ytjmmgekildlckaa
