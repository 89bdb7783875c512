/-
  The run with which each statement on feeds of the kind RSS begins (printed by gen_rsk.py).
-/
import Derived.Test.YtlmmiaghbommcaaDoorRsJ
namespace Go.Proofs.YtlmmiaghbommcaaDoor
open Go.ChangeShapes Go.WideShapes Go.ChangeAt Go.Deep
open Go.RowKit Go.Nst
set_option maxRecDepth 100000
set_option linter.unusedVariables false
set_option linter.unusedSimpArgs false

def rlS : List UInt8 := [60, 114, 115, 115, 62, 60, 99, 104, 97, 110, 110, 101, 108, 62, 60, 116, 105, 116, 108, 101, 62, 32, 77, 121, 32, 32, 102, 101, 101, 100, 60, 47, 116, 105, 116, 108, 101, 62, 60, 105, 116, 101, 109, 62, 60, 116, 105, 116, 108, 101, 62, 65, 60, 47, 116, 105, 116, 108, 101, 62, 60, 112, 117, 98, 68, 97, 116, 101, 62, 84, 104, 117, 44, 32, 48, 49, 32, 74, 97, 110, 32, 49, 57, 55, 48, 32, 48, 48, 58, 48, 49, 58, 48, 48, 32, 71, 77, 84, 60, 47, 112, 117, 98, 68, 97, 116, 101, 62, 60, 47, 105, 116, 101, 109, 62, 60, 105, 116, 101, 109, 47, 62, 60, 47, 99, 104, 97, 110, 110, 101, 108, 62, 60, 47, 114, 115, 115, 62]
def rlT : List Xtk := [⟨1, [114, 115, 115], [], []⟩, ⟨1, [99, 104, 97, 110, 110, 101, 108], [], []⟩, ⟨1, [116, 105, 116, 108, 101], [], []⟩, ⟨3, [], [], [32, 77, 121, 32, 32, 102, 101, 101, 100]⟩, ⟨2, [116, 105, 116, 108, 101], [], []⟩, ⟨1, [105, 116, 101, 109], [], []⟩, ⟨1, [116, 105, 116, 108, 101], [], []⟩, ⟨3, [], [], [65]⟩, ⟨2, [116, 105, 116, 108, 101], [], []⟩, ⟨1, [112, 117, 98, 68, 97, 116, 101], [], []⟩, ⟨3, [], [], [84, 104, 117, 44, 32, 48, 49, 32, 74, 97, 110, 32, 49, 57, 55, 48, 32, 48, 48, 58, 48, 49, 58, 48, 48, 32, 71, 77, 84]⟩, ⟨2, [112, 117, 98, 68, 97, 116, 101], [], []⟩, ⟨2, [105, 116, 101, 109], [], []⟩, ⟨1, [105, 116, 101, 109], [], []⟩, ⟨2, [105, 116, 101, 109], [], []⟩, ⟨2, [99, 104, 97, 110, 110, 101, 108], [], []⟩, ⟨2, [114, 115, 115], [], []⟩]
def rlE : Elm := .mk [114, 115, 115] [] [] [.mk [99, 104, 97, 110, 110, 101, 108] [] [] [.mk [116, 105, 116, 108, 101] [] [32, 77, 121, 32, 32, 102, 101, 101, 100] [], .mk [105, 116, 101, 109] [] [] [.mk [116, 105, 116, 108, 101] [] [65] [], .mk [112, 117, 98, 68, 97, 116, 101] [] [84, 104, 117, 44, 32, 48, 49, 32, 74, 97, 110, 32, 49, 57, 55, 48, 32, 48, 48, 58, 48, 49, 58, 48, 48, 32, 71, 77, 84] []], .mk [105, 116, 101, 109] [] [] []]]
theorem rl_tok : tokD rlS = (rlT, 138, 0) := by decide +kernel
theorem rl_el : elemD 32 rlT = some (rlE, 17) := by kernel_rfl
theorem rl_tsm : TkSm rlT := by
  unfold TkSm
  decide +kernel
theorem rl_sm : SmE 12 rlE := cnt_pos 12 rlE 1 6000 (by omega) (by omega) (by decide +kernel)
def rlD : Docs := ⟨[77, 121, 32, 102, 101, 101, 100], [], [⟨[65], [65], [], 60, true⟩]⟩
theorem rl_read : readD rlE = some rlD := by decide +kernel
theorem rl_field : fieldD rlE sChan 3 = [] := by decide +kernel
def feedE : Elm := .mk [102, 101, 101, 100] [] [] []
theorem feed_read : readD feedE = none := by decide +kernel
theorem feed_sm : SmE 12 feedE := cnt_pos 12 feedE 1 6000 (by omega) (by omega) (by decide +kernel)
def linkE : Elm := .mk [] [] [] [.mk [108, 105, 110, 107] [] [108] []]
theorem link_ent : entD linkE = some ⟨[108], [], [108], 0, false⟩ := by decide +kernel
theorem link_sm : SmE 8 linkE := cnt_pos 8 linkE 1 6000 (by omega) (by omega) (by decide +kernel)
def abE : Elm := .mk [] [] [] [.mk [97] [] [120] [], .mk [98] [] [49, 57, 55, 48, 45, 48, 49, 45, 48, 49, 84, 48, 48, 58, 48, 48, 58, 48, 53, 90] []]
theorem ab_mom : momD abE [[97], [98]] = some 5 := by decide +kernel
theorem ab_sm : SmE 8 abE := cnt_pos 8 abE 1 6000 (by omega) (by omega) (by decide +kernel)
section
variable {w : World} {S : Nat → Prop}
theorem em_leaf (nm tx : List UInt8) (h1 : nm.length ≤ 1100000) (h2 : tx.length ≤ 1100000) : EmF w S (.mk nm [] tx []) none 0 none 0 := ⟨h1, h2, ⟨Nat.zero_le _, by omega⟩, ⟨Nat.zero_le _, by omega⟩, ⟨Nat.zero_le _, Nat.zero_le _⟩, by simp [Elm.ats], RwA.nil _, RwA.nil _⟩
theorem em_node (l : List Elm) (g n : Nat) (hn : l.length = n) (hl : n ≤ 1100000) (h : EmA w S (some ⟨g, 0, none⟩) n l) : EmF w S (.mk [] [] [] l) none 0 (some ⟨g, 0, none⟩) n :=
  ⟨by simp [Elm.nm], by simp [Elm.tx], ⟨Nat.zero_le _, by omega⟩, ⟨by show l.length ≤ n; omega, by omega⟩, ⟨Nat.zero_le _, by show l.length ≤ _; omega⟩, by simp [Elm.ats], RwA.nil _, by show EmA w S _ l.length l; rw [hn]; exact h⟩
end
/-- a literal of several elements -/
theorem rwl_lit {α : Type} {sz : Nat} {P : World → (Nat → Prop) → Array Value → α → Prop} {W : World} {S : Nat → Prop} {e : TypeId} (hP : ElP sz P) (V : Nat → Array Value) (n : Nat) (cs : Array Value) (l : List α) (hcs : cs.toList = rowZ V n) (hl : l.length = n) (hq : ∀ (i : Nat) (x : α), l[i]? = some x → P W S (V i) x) {g : Nat} (hg : W.heap.size = g) (hS : S g) :
    RwA sz P (W.alloc (.cells cs e)) S (some ⟨g, 0, none⟩) n l := by
  subst hg
  have hs : ∀ i, i < n → (V i).size = sz := fun i hi => hP.size (hq i _ (List.getElem?_eq_getElem (show i < l.length by omega)))
  refine ⟨hl, V, fun _ => ⟨_, _, rfl, hS, by simp, fun i j u hi hu => ?_⟩, fun i q hi => hP.bel (hq i q hi) (bel_alloc (Below.refl _ _) _)⟩
  have hj : j < sz := by
    rcases Nat.lt_or_ge j sz with h | h
    · exact h
    · rw [Array.getElem?_eq_none (by rw [hs i hi]; exact h)] at hu; cases hu
  rw [show 0 + i * sz + j = i * sz + j by omega, (Blk.new W e cs).cell, ← Array.getElem?_toList, hcs, rowZ_get V n hs i j hi hj]
  exact hu
def lkV : Array Value := #[.string ⟨#[108, 105, 110, 107]⟩, .slice none 0 0, .string ⟨#[108]⟩, .slice none 0 0]
def abV : Array Value := #[.string ⟨#[97]⟩, .slice none 0 0, .string ⟨#[120]⟩, .slice none 0 0, .string ⟨#[98]⟩, .slice none 0 0, .string ⟨#[49, 57, 55, 48, 45, 48, 49, 45, 48, 49, 84, 48, 48, 58, 48, 48, 58, 48, 53, 90]⟩, .slice none 0 0]
theorem link_em (W : World) : EmF (W.alloc (.cells lkV 30)) (fun _ => True) linkE none 0 (some ⟨W.heap.size, 0, none⟩) 1 := by
  refine em_node _ _ 1 rfl (by omega) (rwl_lit emP (fun _ => lkV) 1 lkV _ (by simp [rowZ]) rfl (fun i x hi => ?_) rfl trivial)
  match i, hi with
  | 0, hi =>
    simp only [List.getElem?_cons_zero, Option.some.injEq] at hi
    subst hi
    exact em_make (em_leaf _ _ (by simp) (by simp))
  | k + 1, hi => simp at hi
theorem ab_em (W : World) : EmF (W.alloc (.cells abV 30)) (fun _ => True) abE none 0 (some ⟨W.heap.size, 0, none⟩) 2 := by
  refine em_node _ _ 2 rfl (by omega) (rwl_lit emP (fun i => if i = 0 then emV (.mk [97] [] [120] []) none 0 0 none 0 0 else emV (.mk [98] [] [49, 57, 55, 48, 45, 48, 49, 45, 48, 49, 84, 48, 48, 58, 48, 48, 58, 48, 53, 90] []) none 0 0 none 0 0) 2 abV _ rfl rfl (fun i x hi => ?_) rfl trivial)
  match i, hi with
  | 0, hi =>
    simp only [List.getElem?_cons_zero, Option.some.injEq] at hi
    subst hi
    exact em_make (em_leaf _ _ (by simp) (by simp))
  | 1, hi =>
    simp only [List.getElem?_cons_succ, List.getElem?_cons_zero, Option.some.injEq] at hi
    subst hi
    exact em_make (em_leaf _ _ (by simp) (by simp))
  | k + 2, hi => simp at hi
set_option maxHeartbeats 16000000 in
theorem lives10_any (m : Int) (w : World) (hM : MM m w) : Calls Tryd.prog 4 #[] w (RetTrue w) := by
  obtain ⟨ee, hee⟩ : ∃ ee, ee = rlE := ⟨_, rfl⟩
  obtain ⟨tl, htl⟩ : ∃ tl, tl = rlT := ⟨_, rfl⟩
  have HRD : Hid (readD ee = some rlD) := Lib.hid (by rw [hee]; exact rl_read)
  have HSM : Hid (SmE 12 ee) := Lib.hid (by rw [hee]; exact rl_sm)
  have HFD : Hid (fieldD ee sChan 3 = []) := Lib.hid (by rw [hee]; exact rl_field)
  have HP := Lib.hid (parse9_any rlS rlT _ 17 w ee ⟨1, [114, 115, 115], [], []⟩ (by decide) rl_tok rfl rl_tsm rfl rfl rfl (by rw [hee]; exact rl_el))
  clear hee htl
  have MX_1 := Lib.hid (hM)
  have BW_2 := Lib.hid (Below.refl w.heap.size w)
  clear hM
  go_enter Tryd.func4, Tryd.ntmps4
  go_wp2_with fail
  simp only [rlS] at HP
  (with_reducible refine (HP.out).mono ?_)
  rintro _ w1 ⟨A1, c1, B1, d1, rfl, hF, hb⟩
  simp only [emV]
  have hbx := bel_alloc hb (.cells #[.string ⟨ee.nm.toArray⟩, .slice A1 ee.ats.length c1, .string ⟨ee.tx.toArray⟩, .slice B1 ee.kids.length d1] 30)
  have MX_3 := Lib.hid (MX_1.out.keep hbx)
  have BW_4 := Lib.hid (bel_step BW_2.out hbx)
  clear MX_1 BW_2
  have F1_5 := Lib.hid (em_bel hF (bel_alloc (Below.refl w1.heap.size w1) (.cells #[.string ⟨ee.nm.toArray⟩, .slice A1 ee.ats.length c1, .string ⟨ee.tx.toArray⟩, .slice B1 ee.kids.length d1] 30)))
  have X1_6 := Lib.hid (Blk.new w1 30 #[.string ⟨ee.nm.toArray⟩, .slice A1 ee.ats.length c1, .string ⟨ee.tx.toArray⟩, .slice B1 ee.kids.length d1])
  obtain ⟨hca, hcb⟩ := hF.hc
  obtain ⟨hda, hdb⟩ := hF.hd
  clear hF hb hbx HP
  have HC := Lib.hid (Read10_any ee A1 B1 c1 d1 m _ _ F1_5.out HSM.out MX_3.out)
  simp only [emV] at HC
  go_wp2_with fail
  (with_reducible refine (HC.out).mono ?_)
  rintro _ w2 h3
  rw [HRD.out] at h3
  obtain ⟨A3, n3, c3, rfl, hE, hn3, hc3, hb⟩ := h3
  simp only [Option.getD_some, Option.isSome_some] at hE ⊢
  have hbx := bel_alloc hb (.cells #[.string ⟨rlD.ti.toArray⟩, .string ⟨rlD.li.toArray⟩, .slice A3 n3 c3] 24)
  have MX_7 := Lib.hid (MX_3.out.keep hbx)
  have BW_8 := Lib.hid (bel_step BW_4.out hbx)
  have F1_9 := Lib.hid (em_bel F1_5.out hbx)
  have X1_10 := Lib.hid (X1_6.out.below hbx X1_6.out.lt)
  clear MX_3 BW_4 F1_5 X1_6
  have D3_11 := Lib.hid (hE.bel enP (bel_alloc (Below.refl w2.heap.size w2) (.cells #[.string ⟨rlD.ti.toArray⟩, .string ⟨rlD.li.toArray⟩, .slice A3 n3 c3] 24)))
  have X3_12 := Lib.hid (Blk.new w2 24 #[.string ⟨rlD.ti.toArray⟩, .string ⟨rlD.li.toArray⟩, .slice A3 n3 c3])
  clear hE hb hbx HC
  have HC := Lib.hid (Read10_any feedE none none 0 0 m (w2.alloc (.cells #[.string ⟨rlD.ti.toArray⟩, .string ⟨rlD.li.toArray⟩, .slice A3 n3 c3] 24)) (fun _ => True) (em_leaf _ _ (by simp) (by simp)) feed_sm MX_7.out)
  simp only [emV, feedE, Elm.nm, Elm.ats, Elm.tx, Elm.kids, List.length_nil] at HC
  go_wp2_with fail
  (with_reducible refine (HC.out).mono ?_)
  rintro _ w3 h3
  rw [show readD (.mk [102, 101, 101, 100] [] [] []) = none from feed_read] at h3
  obtain ⟨A5, n5, c5, rfl, -, -, -, hb⟩ := h3
  simp only [Option.getD_none, Option.isSome_none, zeroDoc]
  have hbx := bel_alloc (bel_alloc hb (.cells #[.string ⟨([] : List UInt8).toArray⟩, .string ⟨([] : List UInt8).toArray⟩, .slice A5 n5 c5] 24)) (.cells lkV 30)
  have MX_13 := Lib.hid (MX_7.out.keep hbx)
  have BW_14 := Lib.hid (bel_step BW_8.out hbx)
  have F1_15 := Lib.hid (em_bel F1_9.out hbx)
  have X1_16 := Lib.hid (X1_10.out.below hbx X1_10.out.lt)
  have D3_17 := Lib.hid (D3_11.out.bel enP hbx)
  have X3_18 := Lib.hid (X3_12.out.below hbx X3_12.out.lt)
  clear MX_7 BW_8 F1_9 X1_10 D3_11 X3_12
  clear hb hbx HC
  have HC := Lib.hid (Entry10_any linkE none (some ⟨_, 0, none⟩) 0 1 m _ _ (link_em (w3.alloc (.cells #[.string ⟨([] : List UInt8).toArray⟩, .string ⟨([] : List UInt8).toArray⟩, .slice A5 n5 c5] 24))) link_sm MX_13.out)
  simp only [emV, linkE, Elm.nm, Elm.ats, Elm.tx, Elm.kids, List.length_nil, List.length_cons, Nat.zero_add, lkV] at HC
  simp only [lkV] at MX_13 BW_14 F1_15 X1_16 D3_17 X3_18
  rw [show (w3.alloc (.cells #[.string ⟨([] : List UInt8).toArray⟩, .string ⟨([] : List UInt8).toArray⟩, .slice A5 n5 c5] 24)).heap.size = w3.heap.size + 1 by simp] at HC
  go_wp2_with fail
  (with_reducible refine (HC.out).mono ?_)
  rintro _ w4 h3
  rw [show entD (.mk [] [] [] [.mk [108, 105, 110, 107] [] [108] []]) = _ from link_ent] at h3
  obtain ⟨rfl, hb⟩ := h3
  simp only [enT, enV, Option.getD_some, Option.isSome_some]
  have hbx := bel_alloc hb (.cells #[.string ⟨[108].toArray⟩, .string ⟨([] : List UInt8).toArray⟩, .string ⟨[108].toArray⟩, .int .i64 0, .bool false] 37)
  have MX_19 := Lib.hid (MX_13.out.keep hbx)
  have BW_20 := Lib.hid (bel_step BW_14.out hbx)
  have F1_21 := Lib.hid (em_bel F1_15.out hbx)
  have X1_22 := Lib.hid (X1_16.out.below hbx X1_16.out.lt)
  have D3_23 := Lib.hid (D3_17.out.bel enP hbx)
  have X3_24 := Lib.hid (X3_18.out.below hbx X3_18.out.lt)
  clear MX_13 BW_14 F1_15 X1_16 D3_17 X3_18
  have X7_25 := Lib.hid (Blk.new w4 37 #[.string ⟨[108].toArray⟩, .string ⟨([] : List UInt8).toArray⟩, .string ⟨[108].toArray⟩, .int .i64 0, .bool false])
  clear hb hbx HC
  have hbx := bel_alloc (bel_alloc (Below.refl (w4.alloc (.cells #[.string ⟨[108].toArray⟩, .string ⟨([] : List UInt8).toArray⟩, .string ⟨[108].toArray⟩, .int .i64 0, .bool false] 37)).heap.size _) (.cells abV 30)) (.cells #[.string ⟨#[97]⟩, .string ⟨#[98]⟩] 9)
  have hss := Ss.const ((w4.alloc (.cells #[.string ⟨[108].toArray⟩, .string ⟨([] : List UInt8).toArray⟩, .string ⟨[108].toArray⟩, .int .i64 0, .bool false] 37)).alloc (.cells abV 30)) [[97], [98]] #[.string ⟨#[97]⟩, .string ⟨#[98]⟩] 9 (0, 0) 2 rfl (by simp [sv])
  have hem := em_bel (ab_em (w4.alloc (.cells #[.string ⟨[108].toArray⟩, .string ⟨([] : List UInt8).toArray⟩, .string ⟨[108].toArray⟩, .int .i64 0, .bool false] 37))) (bel_alloc (Below.refl _ _) (.cells #[.string ⟨#[97]⟩, .string ⟨#[98]⟩] 9))
  have MX_26 := Lib.hid (MX_19.out.keep hbx)
  have BW_27 := Lib.hid (bel_step BW_20.out hbx)
  have F1_28 := Lib.hid (em_bel F1_21.out hbx)
  have X1_29 := Lib.hid (X1_22.out.below hbx X1_22.out.lt)
  have D3_30 := Lib.hid (D3_23.out.bel enP hbx)
  have X3_31 := Lib.hid (X3_24.out.below hbx X3_24.out.lt)
  have X7_32 := Lib.hid (X7_25.out.below hbx X7_25.out.lt)
  clear MX_19 BW_20 F1_21 X1_22 D3_23 X3_24 X7_25
  have HC := Lib.hid (Moment10_any abE none (some ⟨_, 0, none⟩) 0 2 [[97], [98]] _ 2 2 m _ _ hem hss ab_sm MX_26.out (by omega))
  rw [ab_mom] at HC
  simp only [emV, abE, Elm.nm, Elm.ats, Elm.tx, Elm.kids, List.length_nil, List.length_cons, Nat.zero_add, Nat.reduceAdd, abV, znV, Option.getD_some, Option.isSome_some] at HC
  simp only [abV] at MX_26 BW_27 F1_28 X1_29 D3_30 X3_31 X7_32
  rw [show ((w4.alloc (.cells #[.string ⟨[108].toArray⟩, .string ⟨([] : List UInt8).toArray⟩, .string ⟨[108].toArray⟩, .int .i64 0, .bool false] 37)).alloc (.cells #[.string ⟨#[97]⟩, .slice none 0 0, .string ⟨#[120]⟩, .slice none 0 0, .string ⟨#[98]⟩, .slice none 0 0, .string ⟨#[49, 57, 55, 48, 45, 48, 49, 45, 48, 49, 84, 48, 48, 58, 48, 48, 58, 48, 53, 90]⟩, .slice none 0 0] 30)).heap.size = w4.heap.size + 2 by simp, show (w4.alloc (.cells #[.string ⟨[108].toArray⟩, .string ⟨([] : List UInt8).toArray⟩, .string ⟨[108].toArray⟩, .int .i64 0, .bool false] 37)).heap.size = w4.heap.size + 1 by simp] at HC
  clear hss hem hbx
  go_wp2_with fail
  (with_reducible refine (HC.out).mono ?_)
  rintro _ w5 ⟨rfl, hb⟩
  have MX_33 := Lib.hid (MX_26.out.keep hb)
  have BW_34 := Lib.hid (bel_step BW_27.out hb)
  have F1_35 := Lib.hid (em_bel F1_28.out hb)
  have X1_36 := Lib.hid (X1_29.out.below hb X1_29.out.lt)
  have D3_37 := Lib.hid (D3_30.out.bel enP hb)
  have X3_38 := Lib.hid (X3_31.out.below hb X3_31.out.lt)
  have X7_39 := Lib.hid (X7_32.out.below hb X7_32.out.lt)
  clear MX_26 BW_27 F1_28 X1_29 D3_30 X3_31 X7_32
  clear hb HC
  have t0 := X3_38.out.cell 0
  have t1 := X3_38.out.cell 1
  have t2 := X3_38.out.cell 2
  have s0 := X7_39.out.cell 0
  have s2 := X7_39.out.cell 2
  simp [rlD] at t0 t1 t2 s0 s2
  have hr := rwl_lit (W := w5) (S := fun _ => True) (e := 37) enP (fun _ => enV ⟨[65], [65], [], 60, true⟩) 1 (enV ⟨[65], [65], [], 60, true⟩) [⟨[65], [65], [], 60, true⟩] (by simp [rowZ]) rfl (fun i x hi => by match i, hi with | 0, hi => (simp only [List.getElem?_cons_zero, Option.some.injEq] at hi; subst hi; rfl) | k + 1, hi => simp at hi) rfl trivial
  have hbx := bel_alloc (Below.refl w5.heap.size w5) (.cells (enV ⟨[65], [65], [], 60, true⟩) 37)
  have MX_40 := Lib.hid (MX_33.out.keep hbx)
  have BW_41 := Lib.hid (bel_step BW_34.out hbx)
  have F1_42 := Lib.hid (em_bel F1_35.out hbx)
  have X1_43 := Lib.hid (X1_36.out.below hbx X1_36.out.lt)
  have D3_44 := Lib.hid (D3_37.out.bel enP hbx)
  have X3_45 := Lib.hid (X3_38.out.below hbx X3_38.out.lt)
  have X7_46 := Lib.hid (X7_39.out.below hbx X7_39.out.lt)
  clear MX_33 BW_34 F1_35 X1_36 D3_37 X3_38 X7_39
  have HC := Lib.hid (sameE10_any rlD.en [⟨[65], [65], [], 60, true⟩] A3 _ n3 1 c3 1 _ _ _ D3_44.out hr ⟨hn3, hc3⟩ (by omega))
  rw [show decide (rlD.en = [⟨[65], [65], [], 60, true⟩]) = true by decide +kernel] at HC
  simp only [enV] at HC MX_40 BW_41 F1_42 X1_43 D3_44 X3_45 X7_46
  clear hr hbx
  go_wp2_with fail
  (with_reducible refine (HC.out).mono ?_)
  rintro _ w6 ⟨rfl, hm⟩
  have hb := bel_dn hm
  clear hm HC t0 t1 t2 s0 s2
  have MX_47 := Lib.hid (MX_40.out.keep hb)
  have BW_48 := Lib.hid (bel_step BW_41.out hb)
  have F1_49 := Lib.hid (em_bel F1_42.out hb)
  have X1_50 := Lib.hid (X1_43.out.below hb X1_43.out.lt)
  have D3_51 := Lib.hid (D3_44.out.bel enP hb)
  have X3_52 := Lib.hid (X3_45.out.below hb X3_45.out.lt)
  have X7_53 := Lib.hid (X7_46.out.below hb X7_46.out.lt)
  clear MX_40 BW_41 F1_42 X1_43 D3_44 X3_45 X7_46
  clear hb
  have s0 := X7_53.out.cell 0
  have s2 := X7_53.out.cell 2
  have u0 := X1_50.out.cell 0
  have u1 := X1_50.out.cell 1
  have u2 := X1_50.out.cell 2
  have u3 := X1_50.out.cell 3
  simp at s0 s2 u0 u1 u2 u3
  have HC := Lib.hid (field10_any ee A1 B1 c1 d1 sChan 3 _ _ F1_49.out (kid_tx (n := 10) HSM.out _) (by omega) (by omega))
  rw [HFD.out] at HC
  simp only [emV, sChan] at HC
  go_wp2_with fail
  (with_reducible refine (HC.out).mono ?_)
  rintro _ w7 ⟨rfl, hb⟩
  have MX_54 := Lib.hid (MX_47.out.keep hb)
  have BW_55 := Lib.hid (bel_step BW_48.out hb)
  have F1_56 := Lib.hid (em_bel F1_49.out hb)
  have X1_57 := Lib.hid (X1_50.out.below hb X1_50.out.lt)
  have D3_58 := Lib.hid (D3_51.out.bel enP hb)
  have X3_59 := Lib.hid (X3_52.out.below hb X3_52.out.lt)
  have X7_60 := Lib.hid (X7_53.out.below hb X7_53.out.lt)
  clear MX_47 BW_48 F1_49 X1_50 D3_51 X3_52 X7_53
  clear hb HC s0 s2 u0 u1 u2 u3
  have t0 := X3_59.out.cell 0
  have t1 := X3_59.out.cell 1
  have t2 := X3_59.out.cell 2
  simp at t0 t1 t2
  have HC := Lib.hid (Same10_any rlD rlD A3 A3 n3 n3 c3 c3 _ _ _ D3_58.out D3_58.out ⟨hn3, hc3⟩ ⟨hn3, hc3⟩)
  rw [show decide (rlD = rlD) = true by simp] at HC
  go_wp2_with fail
  (with_reducible refine (HC.out).mono ?_)
  rintro _ w8 ⟨rfl, hb⟩
  go_wp2_with fail
  go_ret
  exact ⟨rfl, bel_step BW_55.out hb⟩
end Go.Proofs.YtlmmiaghbommcaaDoor
