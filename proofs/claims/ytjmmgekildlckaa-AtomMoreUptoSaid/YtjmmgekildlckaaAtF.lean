/-
  The run with which each statement on feeds of the kind Atom begins (printed by gen_atf.py).
-/
import Derived.Test.YtjmmgekildlckaaRsJ
import Derived.Test.YtjmmgekildlckaaAtE
namespace Go.Proofs.Ytjmmgekildlckaa
open Go.ChangeShapes Go.WideShapes Go.ChangeAt Go.Deep
open Go.RowKit Go.Nst
set_option maxRecDepth 100000
set_option linter.unusedVariables false
set_option linter.unusedSimpArgs false

def alS : List UInt8 := [60, 102, 101, 101, 100, 62, 60, 116, 105, 116, 108, 101, 62, 70, 60, 47, 116, 105, 116, 108, 101, 62, 60, 108, 105, 110, 107, 32, 114, 101, 108, 61, 34, 115, 101, 108, 102, 34, 32, 104, 114, 101, 102, 61, 34, 97, 34, 47, 62, 60, 108, 105, 110, 107, 32, 104, 114, 101, 102, 61, 34, 32, 98, 32, 34, 47, 62, 60, 101, 110, 116, 114, 121, 62, 60, 105, 100, 62, 105, 60, 47, 105, 100, 62, 60, 117, 112, 100, 97, 116, 101, 100, 62, 49, 57, 55, 48, 45, 48, 49, 45, 48, 49, 84, 48, 48, 58, 48, 48, 58, 48, 55, 90, 60, 47, 117, 112, 100, 97, 116, 101, 100, 62, 60, 47, 101, 110, 116, 114, 121, 62, 60, 101, 110, 116, 114, 121, 47, 62, 60, 47, 102, 101, 101, 100, 62]
def alT : List Xtk := [⟨1, [102, 101, 101, 100], [], []⟩, ⟨1, [116, 105, 116, 108, 101], [], []⟩, ⟨3, [], [], [70]⟩, ⟨2, [116, 105, 116, 108, 101], [], []⟩, ⟨1, [108, 105, 110, 107], [⟨[114, 101, 108], [115, 101, 108, 102]⟩, ⟨[104, 114, 101, 102], [97]⟩], []⟩, ⟨2, [108, 105, 110, 107], [], []⟩, ⟨1, [108, 105, 110, 107], [⟨[104, 114, 101, 102], [32, 98, 32]⟩], []⟩, ⟨2, [108, 105, 110, 107], [], []⟩, ⟨1, [101, 110, 116, 114, 121], [], []⟩, ⟨1, [105, 100], [], []⟩, ⟨3, [], [], [105]⟩, ⟨2, [105, 100], [], []⟩, ⟨1, [117, 112, 100, 97, 116, 101, 100], [], []⟩, ⟨3, [], [], [49, 57, 55, 48, 45, 48, 49, 45, 48, 49, 84, 48, 48, 58, 48, 48, 58, 48, 55, 90]⟩, ⟨2, [117, 112, 100, 97, 116, 101, 100], [], []⟩, ⟨2, [101, 110, 116, 114, 121], [], []⟩, ⟨1, [101, 110, 116, 114, 121], [], []⟩, ⟨2, [101, 110, 116, 114, 121], [], []⟩, ⟨2, [102, 101, 101, 100], [], []⟩]
def alE : Elm := .mk [102, 101, 101, 100] [] [] [.mk [116, 105, 116, 108, 101] [] [70] [], .mk [108, 105, 110, 107] [⟨[114, 101, 108], [115, 101, 108, 102]⟩, ⟨[104, 114, 101, 102], [97]⟩] [] [], .mk [108, 105, 110, 107] [⟨[104, 114, 101, 102], [32, 98, 32]⟩] [] [], .mk [101, 110, 116, 114, 121] [] [] [.mk [105, 100] [] [105] [], .mk [117, 112, 100, 97, 116, 101, 100] [] [49, 57, 55, 48, 45, 48, 49, 45, 48, 49, 84, 48, 48, 58, 48, 48, 58, 48, 55, 90] []], .mk [101, 110, 116, 114, 121] [] [] []]
theorem al_tok : tokD alS = (alT, 146, 0) := by decide +kernel
theorem al_el : elemD 32 alT = some (alE, 19) := by kernel_rfl
theorem al_tsm : TkSm alT := by
  unfold TkSm
  decide +kernel
theorem al_sm : SmE 12 alE := cnt_pos 12 alE 1 6000 (by omega) (by omega) (by decide +kernel)
def alD : Docs := ⟨[70], [98], [⟨[105], [], [], 7, true⟩]⟩
theorem al_read : readA alE = some alD := by decide +kernel
theorem al_link : lnkD alE = [98] := by decide +kernel
def rssA : Elm := .mk [114, 115, 115] [] [] []
theorem rssA_read : readA rssA = none := by decide +kernel
theorem rssA_sm : SmE 12 rssA := cnt_pos 12 rssA 1 6000 (by omega) (by omega) (by decide +kernel)
def titA : Elm := .mk [] [] [] [.mk [116, 105, 116, 108, 101] [] [116] []]
theorem titA_ent : entA titA = some ⟨[116], [116], [], 0, false⟩ := by decide +kernel
theorem titA_sm : SmE 8 titA := cnt_pos 8 titA 1 6000 (by omega) (by omega) (by decide +kernel)
def nilA : Elm := .mk [] [] [] []
theorem nilA_mom : momA nilA = none := by decide +kernel
theorem nilA_sm : SmE 8 nilA := cnt_pos 8 nilA 1 6000 (by omega) (by omega) (by decide +kernel)
def ttV : Array Value := #[.string ⟨#[116, 105, 116, 108, 101]⟩, .slice none 0 0, .string ⟨#[116]⟩, .slice none 0 0]
theorem titA_em (W : World) : EmF (W.alloc (.cells ttV 25)) (fun _ => True) titA none 0 (some ⟨W.heap.size, 0, none⟩) 1 := by
  refine em_nodeA _ _ 1 rfl (by omega) (rwl_litA emP (fun _ => ttV) 1 ttV _ (by simp [rowZ]) rfl (fun i x hi => ?_) rfl trivial)
  match i, hi with
  | 0, hi =>
    simp only [List.getElem?_cons_zero, Option.some.injEq] at hi
    subst hi
    exact em_make (em_leafA _ _ (by simp) (by simp))
  | k + 1, hi => simp at hi
set_option maxHeartbeats 16000000 in
theorem lives11_any (w : World) : Calls Try.prog 6 #[] w (RetTrue w) := by
  obtain ⟨ee, hee⟩ : ∃ ee, ee = alE := ⟨_, rfl⟩
  have HRD : Hid (readA ee = some alD) := Lib.hid (by rw [hee]; exact al_read)
  have HSM : Hid (SmE 12 ee) := Lib.hid (by rw [hee]; exact al_sm)
  have HLK : Hid (lnkD ee = [98]) := Lib.hid (by rw [hee]; exact al_link)
  have HP := Lib.hid (parse9_any alS alT _ 19 w ee ⟨1, [102, 101, 101, 100], [], []⟩ (by decide) al_tok rfl al_tsm rfl rfl rfl (by rw [hee]; exact al_el))
  clear hee
  have BW_1 := Lib.hid (Below.refl w.heap.size w)
  go_enter Try.func6, Try.ntmps6
  go_wp2_with fail
  simp only [alS] at HP
  (with_reducible refine (HP.out).mono ?_)
  rintro _ w1 ⟨A1, c1, B1, d1, rfl, hF, hb⟩
  simp only [emV]
  have hbx := bel_alloc hb (.cells #[.string ⟨ee.nm.toArray⟩, .slice A1 ee.ats.length c1, .string ⟨ee.tx.toArray⟩, .slice B1 ee.kids.length d1] 25)
  have BW_2 := Lib.hid (bel_step BW_1.out hbx)
  clear BW_1
  have F1_3 := Lib.hid (em_bel hF (bel_alloc (Below.refl w1.heap.size w1) (.cells #[.string ⟨ee.nm.toArray⟩, .slice A1 ee.ats.length c1, .string ⟨ee.tx.toArray⟩, .slice B1 ee.kids.length d1] 25)))
  have X1_4 := Lib.hid (Blk.new w1 25 #[.string ⟨ee.nm.toArray⟩, .slice A1 ee.ats.length c1, .string ⟨ee.tx.toArray⟩, .slice B1 ee.kids.length d1])
  obtain ⟨hca, hcb⟩ := hF.hc
  obtain ⟨hda, hdb⟩ := hF.hd
  clear hF hb hbx HP
  have HC := Lib.hid (Read11_any ee A1 B1 c1 d1 _ _ F1_3.out HSM.out)
  simp only [emV] at HC
  go_wp2_with fail
  (with_reducible refine (HC.out).mono ?_)
  rintro _ w2 h3
  rw [HRD.out] at h3
  obtain ⟨A3, n3, c3, rfl, hE, hn3, hc3, hb⟩ := h3
  simp only [Option.getD_some, Option.isSome_some] at hE ⊢
  have hbx := bel_alloc hb (.cells #[.string ⟨alD.ti.toArray⟩, .string ⟨alD.li.toArray⟩, .slice A3 n3 c3] 31)
  have BW_5 := Lib.hid (bel_step BW_2.out hbx)
  have F1_6 := Lib.hid (em_bel F1_3.out hbx)
  have X1_7 := Lib.hid (X1_4.out.below hbx X1_4.out.lt)
  clear BW_2 F1_3 X1_4
  have D3_8 := Lib.hid (hE.bel enP (bel_alloc (Below.refl w2.heap.size w2) (.cells #[.string ⟨alD.ti.toArray⟩, .string ⟨alD.li.toArray⟩, .slice A3 n3 c3] 31)))
  have X3_9 := Lib.hid (Blk.new w2 31 #[.string ⟨alD.ti.toArray⟩, .string ⟨alD.li.toArray⟩, .slice A3 n3 c3])
  clear hE hb hbx HC
  have HC := Lib.hid (Read11_any rssA none none 0 0 (w2.alloc (.cells #[.string ⟨alD.ti.toArray⟩, .string ⟨alD.li.toArray⟩, .slice A3 n3 c3] 31)) (fun _ => True) (em_leafA _ _ (by simp) (by simp)) rssA_sm)
  simp only [emV, rssA, Elm.nm, Elm.ats, Elm.tx, Elm.kids, List.length_nil] at HC
  go_wp2_with fail
  (with_reducible refine (HC.out).mono ?_)
  rintro _ w3 h3
  rw [show readA (.mk [114, 115, 115] [] [] []) = none from rssA_read] at h3
  obtain ⟨A5, n5, c5, rfl, -, -, -, hb⟩ := h3
  simp only [Option.getD_none, Option.isSome_none, zeroDoc]
  have hbx := bel_alloc (bel_alloc hb (.cells #[.string ⟨([] : List UInt8).toArray⟩, .string ⟨([] : List UInt8).toArray⟩, .slice A5 n5 c5] 31)) (.cells ttV 25)
  have BW_10 := Lib.hid (bel_step BW_5.out hbx)
  have F1_11 := Lib.hid (em_bel F1_6.out hbx)
  have X1_12 := Lib.hid (X1_7.out.below hbx X1_7.out.lt)
  have D3_13 := Lib.hid (D3_8.out.bel enP hbx)
  have X3_14 := Lib.hid (X3_9.out.below hbx X3_9.out.lt)
  clear BW_5 F1_6 X1_7 D3_8 X3_9
  clear hb hbx HC
  have HC := Lib.hid (Entry11_any titA none (some ⟨_, 0, none⟩) 0 1 _ _ (titA_em (w3.alloc (.cells #[.string ⟨([] : List UInt8).toArray⟩, .string ⟨([] : List UInt8).toArray⟩, .slice A5 n5 c5] 31))) titA_sm)
  simp only [emV, titA, Elm.nm, Elm.ats, Elm.tx, Elm.kids, List.length_nil, List.length_cons, Nat.zero_add, ttV] at HC
  simp only [ttV] at BW_10 F1_11 X1_12 D3_13 X3_14
  rw [show (w3.alloc (.cells #[.string ⟨([] : List UInt8).toArray⟩, .string ⟨([] : List UInt8).toArray⟩, .slice A5 n5 c5] 31)).heap.size = w3.heap.size + 1 by simp] at HC
  go_wp2_with fail
  (with_reducible refine (HC.out).mono ?_)
  rintro _ w4 h3
  rw [show entA (.mk [] [] [] [.mk [116, 105, 116, 108, 101] [] [116] []]) = _ from titA_ent] at h3
  obtain ⟨rfl, hb⟩ := h3
  simp only [enT, enV, Option.getD_some, Option.isSome_some]
  have hbx := bel_alloc hb (.cells #[.string ⟨[116].toArray⟩, .string ⟨[116].toArray⟩, .string ⟨([] : List UInt8).toArray⟩, .int .i64 0, .bool false] 41)
  have BW_15 := Lib.hid (bel_step BW_10.out hbx)
  have F1_16 := Lib.hid (em_bel F1_11.out hbx)
  have X1_17 := Lib.hid (X1_12.out.below hbx X1_12.out.lt)
  have D3_18 := Lib.hid (D3_13.out.bel enP hbx)
  have X3_19 := Lib.hid (X3_14.out.below hbx X3_14.out.lt)
  clear BW_10 F1_11 X1_12 D3_13 X3_14
  have X7_20 := Lib.hid (Blk.new w4 41 #[.string ⟨[116].toArray⟩, .string ⟨[116].toArray⟩, .string ⟨([] : List UInt8).toArray⟩, .int .i64 0, .bool false])
  clear hb hbx HC
  have HC := Lib.hid (moment11W_any nilA none none 0 0 (w4.alloc (.cells #[.string ⟨[116].toArray⟩, .string ⟨[116].toArray⟩, .string ⟨([] : List UInt8).toArray⟩, .int .i64 0, .bool false] 41)) (fun _ => True) (em_leafA _ _ (by simp) (by simp)) nilA_sm)
  rw [nilA_mom] at HC
  simp only [emV, nilA, Elm.nm, Elm.ats, Elm.tx, Elm.kids, List.length_nil, znV, Option.getD_none, Option.isSome_none] at HC
  go_wp2_with fail
  (with_reducible refine (HC.out).mono ?_)
  rintro _ w5 ⟨rfl, hb⟩
  have BW_21 := Lib.hid (bel_step BW_15.out hb)
  have F1_22 := Lib.hid (em_bel F1_16.out hb)
  have X1_23 := Lib.hid (X1_17.out.below hb X1_17.out.lt)
  have D3_24 := Lib.hid (D3_18.out.bel enP hb)
  have X3_25 := Lib.hid (X3_19.out.below hb X3_19.out.lt)
  have X7_26 := Lib.hid (X7_20.out.below hb X7_20.out.lt)
  clear BW_15 F1_16 X1_17 D3_18 X3_19 X7_20
  clear hb HC
  have t0 := X3_25.out.cell 0
  have t1 := X3_25.out.cell 1
  have t2 := X3_25.out.cell 2
  have s0 := X7_26.out.cell 0
  simp [alD] at t0 t1 t2 s0
  have hr := rwl_litA (W := w5) (S := fun _ => True) (e := 41) enP (fun _ => enV ⟨[105], [], [], 7, true⟩) 1 (enV ⟨[105], [], [], 7, true⟩) [⟨[105], [], [], 7, true⟩] (by simp [rowZ]) rfl (fun i x hi => by match i, hi with | 0, hi => (simp only [List.getElem?_cons_zero, Option.some.injEq] at hi; subst hi; rfl) | k + 1, hi => simp at hi) rfl trivial
  have hbx := bel_alloc (Below.refl w5.heap.size w5) (.cells (enV ⟨[105], [], [], 7, true⟩) 41)
  have BW_27 := Lib.hid (bel_step BW_21.out hbx)
  have F1_28 := Lib.hid (em_bel F1_22.out hbx)
  have X1_29 := Lib.hid (X1_23.out.below hbx X1_23.out.lt)
  have D3_30 := Lib.hid (D3_24.out.bel enP hbx)
  have X3_31 := Lib.hid (X3_25.out.below hbx X3_25.out.lt)
  have X7_32 := Lib.hid (X7_26.out.below hbx X7_26.out.lt)
  clear BW_21 F1_22 X1_23 D3_24 X3_25 X7_26
  have HC := Lib.hid (sameE10_any alD.en [⟨[105], [], [], 7, true⟩] A3 _ n3 1 c3 1 _ _ _ D3_30.out hr ⟨hn3, hc3⟩ (by omega))
  rw [show decide (alD.en = [⟨[105], [], [], 7, true⟩]) = true by decide +kernel] at HC
  simp only [enV] at HC BW_27 F1_28 X1_29 D3_30 X3_31 X7_32
  clear hr hbx
  go_wp2_with fail
  (with_reducible refine (HC.out).mono ?_)
  rintro _ w6 ⟨rfl, hm⟩
  have hb := bel_dn hm
  clear hm HC t0 t1 t2 s0
  have BW_33 := Lib.hid (bel_step BW_27.out hb)
  have F1_34 := Lib.hid (em_bel F1_28.out hb)
  have X1_35 := Lib.hid (X1_29.out.below hb X1_29.out.lt)
  have D3_36 := Lib.hid (D3_30.out.bel enP hb)
  have X3_37 := Lib.hid (X3_31.out.below hb X3_31.out.lt)
  have X7_38 := Lib.hid (X7_32.out.below hb X7_32.out.lt)
  clear BW_27 F1_28 X1_29 D3_30 X3_31 X7_32
  clear hb
  have s0 := X7_38.out.cell 0
  have u0 := X1_35.out.cell 0
  have u1 := X1_35.out.cell 1
  have u2 := X1_35.out.cell 2
  have u3 := X1_35.out.cell 3
  simp at s0 u0 u1 u2 u3
  have HC := Lib.hid (link11_any ee A1 B1 c1 d1 _ _ F1_34.out (sm_down (sm_down (sm_down (sm_down HSM.out)))))
  rw [HLK.out] at HC
  simp only [emV] at HC
  go_wp2_with fail
  (with_reducible refine (HC.out).mono ?_)
  rintro _ w7 ⟨rfl, hb⟩
  go_wp2_with fail
  go_ret
  exact ⟨rfl, bel_step BW_33.out hb⟩
end Go.Proofs.Ytjmmgekildlckaa
