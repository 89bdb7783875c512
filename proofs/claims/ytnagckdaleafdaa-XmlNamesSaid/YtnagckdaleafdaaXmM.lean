/-
  open: a tag that opens .
-/
import Derived.Test.YtnagckdaleafdaaXmL
namespace Go.Proofs.Ytnagckdaleafdaa
open Go.RowKit Go.Nst
set_option maxRecDepth 100000
set_option linter.unusedVariables false
set_option linter.unusedSimpArgs false

def RetOp (w : World) (g : Nat) (o : Option (List Xtk × List UInt8)) (e : Ending) (w' : World) : Prop :=
  match o with
  | some (ts, b) => RetTk w g ts (b, false) e w'
  | none => ∃ l', RetTk w g [] (l', true) e w'
def openN (l : List UInt8) : Option (List Xtk × List UInt8) := match nameD l with | none => none | some (n, r) => openD n 32 [] r
def strL : Option Value → Nat
  | some (.string s) => s.size
  | _ => 0
def goodL : Option Value → Nat
  | some (.bool true) => 0
  | _ => 1
/-- what holds at each round: the reader, the token's block, the row of its attributes -/
def OpF (w wr : World) (g k : Nat) (n : List UInt8) (s : XS) (A : Option Addr) (m c : Nat) (ats : List Xat) : Prop :=
  XrB wr g s.1 s.2 ∧ Blk wr k 36 #[.int .i64 1, .string ⟨n.toArray⟩, .slice A m c, .string ⟨#[]⟩] ∧ XaO wr (k + 1) (fun _ => False) A m c ats ∧ ML wr ∧ w.grownBy wr (some g)
theorem OpF.xr {w wr w2 : World} {g k : Nat} {n : List UInt8} {s s2 : XS} {A : Option Addr} {m c : Nat} {ats : List Xat} (h : OpF w wr g k n s A m c ats) (hg : g < k) (h1 : XrB w2 g s2.1 s2.2) (h2 : wr.grownBy w2 (some g)) : OpF w w2 g k n s2 A m c ats :=
  ⟨h1, h.2.1.grown h2 (by simp; omega), h.2.2.1.grown xaP h2 (fun g' e => ⟨fun h => h, fun e2 => by injection e with e; have := h.2.2.1.lt g' e2; omega⟩), h.2.2.2.1.xr h.1 h2, grown_two h.2.2.2.2 h2⟩
theorem OpF.bel {w wr w2 : World} {g k : Nat} {n : List UInt8} {s : XS} {A : Option Addr} {m c : Nat} {ats : List Xat} (h : OpF w wr g k n s A m c ats) (hb : Below wr.heap.size wr w2) : OpF w w2 g k n s A m c ats :=
  ⟨h.1.below hb h.1.lt, h.2.1.below hb h.2.1.lt, h.2.2.1.bel xaP hb, h.2.2.2.1.below hb, grown_two h.2.2.2.2 (only_of_below hb _)⟩
section
variable {n : List UInt8} {K : Nat} {ats : List Xat} {l : List UInt8}
theorem openD_62 (h : Lib.hasPrefix (l.dropWhile blkB) [62] = true) : openD n K ats l = some ([⟨1, n, ats, []⟩], (l.dropWhile blkB).drop 1) := by
  unfold openD; rw [if_pos h]
theorem openD_47 (h : Lib.hasPrefix (l.dropWhile blkB) [62] = false) (h2 : Lib.hasPrefix (l.dropWhile blkB) [47, 62] = true) : openD n K ats l = some ([⟨1, n, ats, []⟩, ⟨2, n, [], []⟩], (l.dropWhile blkB).drop 2) := by
  unfold openD; rw [if_neg (by rw [h]; simp), if_pos h2]
theorem openD_apart (h : Lib.hasPrefix (l.dropWhile blkB) [62] = false) (h2 : Lib.hasPrefix (l.dropWhile blkB) [47, 62] = false) (h3 : (!(l.takeWhile blkB).isEmpty) = false) : openD n K ats l = none := by
  have h3 : l.takeWhile blkB = [] := by simpa using h3
  unfold openD; rw [if_neg (by rw [h]; simp), if_neg (by rw [h2]; simp), if_pos h3]
theorem openD_attr (h : Lib.hasPrefix (l.dropWhile blkB) [62] = false) (h2 : Lib.hasPrefix (l.dropWhile blkB) [47, 62] = false) (h3 : attrD (l.dropWhile blkB) = none) : openD n K ats l = none := by
  unfold openD; rw [if_neg (by rw [h]; simp), if_neg (by rw [h2]; simp), h3]
  split <;> rfl
theorem openD_full {a : Xat} {b : List UInt8} (h : Lib.hasPrefix (l.dropWhile blkB) [62] = false) (h2 : Lib.hasPrefix (l.dropWhile blkB) [47, 62] = false) (h3 : attrD (l.dropWhile blkB) = some (a, b)) (h4 : K = 0 ∨ hasNm ats a.nm = true) : openD n K ats l = none := by
  unfold openD; rw [if_neg (by rw [h]; simp), if_neg (by rw [h2]; simp), h3]
  split
  · rfl
  · simp only
    cases K with
    | zero => rfl
    | succ K =>
      simp only
      rcases h4 with h4 | h4
      · cases h4
      · unfold hasNm at h4
        rw [if_pos h4]
theorem openD_next {a : Xat} {b : List UInt8} (h : Lib.hasPrefix (l.dropWhile blkB) [62] = false) (h2 : Lib.hasPrefix (l.dropWhile blkB) [47, 62] = false) (h0 : (!(l.takeWhile blkB).isEmpty) = true) (h3 : attrD (l.dropWhile blkB) = some (a, b)) (h4 : hasNm ats a.nm = false) : openD n (K + 1) ats l = openD n K (ats ++ [a]) b := by
  have h0 : ¬ l.takeWhile blkB = [] := by simpa using h0
  rw [openD]
  rw [if_neg (by rw [h]; simp), if_neg (by rw [h2]; simp), if_neg h0, h3]
  simp only
  unfold hasNm at h4
  rw [if_neg (by rw [h4]; simp)]
end
/-- the token that opens, as it stands in its block -/
theorem xt_open {w W : World} {k : Nat} {n : List UInt8} {A : Option Addr} {m c : Nat} {ats : List Xat} (h : XaO W (k + 1) (fun _ => False) A m c ats) (hk : w.heap.size ≤ k) (hn : n.length ≤ 100000) : XtP W (fun b => w.heap.size ≤ b) #[.int .i64 1, .string ⟨n.toArray⟩, .slice A m c, .string ⟨#[]⟩] ⟨1, n, ats, []⟩ := by
  have hl := h.len
  subst hl
  exact ⟨A, c, rfl, ⟨(show (-9223372036854775808 : Int) ≤ 1 by omega), (show (1 : Int) ≤ 9223372036854775807 by omega)⟩, (show n.length ≤ 9223372036854775807 by omega), by simp, h.cap.1, h.cap.2, h.qs xaP (fun b hb _ => hb.elim) (fun b hb _ => by omega)⟩
theorem xt_lit2 {W : World} {B : Nat} {vs us : Array Value} {t u : Xtk} (hB : B ≤ W.heap.size) (h : XtP W (fun b => B ≤ b) vs t) (h2 : XtP W (fun b => B ≤ b) us u) : XtA (W.alloc (.cells (vs ++ us) 36)) (fun b => B ≤ b) (some ⟨W.heap.size, 0, none⟩) 2 [t, u] :=
  (RwR.blk2 (xtP.size h) (Blk.new W 36 (vs ++ us)) (xtP.bel h (bel_alloc (Below.refl _ _) _)) (xtP.bel h2 (bel_alloc (Below.refl _ _) _))).at_ (fun b off e => by injection e with e; injection e with e; exact e ▸ hB)
theorem grown_bel {a b c : World} {r : Option Nat} {B : Nat} (h : a.grownBy b r) (hb : Below B b c) (hB : a.heap.size ≤ B) : a.grownBy c r := ⟨hb.os.trans h.os, hb.tape.trans h.tape, hb.output.trans h.output, Nat.le_trans h.size hb.size, fun i hi hne => (hb.block i (by omega)).trans (h.block i hi hne)⟩
/-- the token's block with the row grown by an attribute -/
theorem OpF.more {l0 : List UInt8} {b0 : Bool} {w W W3 : World} {g k : Nat} {n : List UInt8} {l : List UInt8} {b bb : Bool} {A A' : Option Addr} {m c c' : Nat} {ats ats' : List Xat} (h : OpF w W g k n (l, b) A m c ats) (hg : g < k) (hwk : w.heap.size ≤ k) (hM : ML w) (hB : XrB w g l0 b0)
    (h3 : XaO W3 (k + 1) (fun _ => False) A' (m + 1) c' ats') (hb : Below (k + 1) (W.setCell ⟨g, 1, none⟩ (.bool bb)) W3) : OpF w (W3.setCell ⟨k, 2, none⟩ (.slice A' (m + 1) c')) g k n (l, bb) A' (m + 1) c' ats' := by
  have hr : XrB (W.setCell ⟨g, 1, none⟩ (.bool bb)) g l bb := by have := Blk.set_ h.1 1 (.bool bb); simpa [XrB] using this
  have hk := h.2.1.far (p := ⟨g, 1, none⟩) (by simp; omega) (.bool bb)
  have hgr : W.grownBy (W.setCell ⟨g, 1, none⟩ (.bool bb)) (some g) := only_setCell (World.grownBy.refl _ _) (.inl rfl) _
  have hk3 := hk.below hb (by omega)
  have hkl := hk3.lt
  have hr3 := hr.below hb (by omega)
  have hall : w.grownBy (W3.setCell ⟨k, 2, none⟩ (.slice A' (m + 1) c')) (some g) := grown_set (grown_bel (grown_two h.2.2.2.2 hgr) hb (by omega)) hwk 2 _
  refine ⟨hr3.far (by simp; omega) _, by simpa using hk3.set_ 2 (.slice A' (m + 1) c'), ?_, hM.xr hB hall, hall⟩
  · exact h3.grown xaP (row := some k) (only_setCell (World.grownBy.refl _ _) (.inl rfl) _) (fun g' e => ⟨fun h => h, fun e2 => by injection e with e; have := h3.lt g' e2; omega⟩)
/-- the world ahead of the append -/
def opW (W : World) (g : Nat) (bb : Bool) (a : Xat) : World := (W.setCell ⟨g, 1, none⟩ (.bool bb)).alloc (.cells (xaV a) 39)
theorem OpF.ready {w W : World} {g k : Nat} {n : List UInt8} {l : List UInt8} {b : Bool} {A : Option Addr} {m c : Nat} {ats : List Xat} (h : OpF w W g k n (l, b) A m c ats) (hg : g < k) (a : Xat) (ha : a.nm.length ≤ 1000000 ∧ a.vl.length ≤ 1000000) (bb : Bool) {sz : Nat} (hsz : W.heap.size = sz) :
    XaO (opW W g bb a) (k + 1) (fun _ => False) A m c ats ∧ XaR (opW W g bb a) (fun b => False ∧ some b ≠ (Value.slice A m c).ownBlock) (some ⟨sz, 0, none⟩) 1 [a] ∧ k + 1 ≤ (opW W g bb a).heap.size ∧ Blk (opW W g bb a) k 36 #[.int .i64 1, .string ⟨n.toArray⟩, .slice A m c, .string ⟨#[]⟩] ∧ Below (k + 1) (W.setCell ⟨g, 1, none⟩ (.bool bb)) (opW W g bb a) := by
  subst hsz
  have hk := h.2.1.far (p := ⟨g, 1, none⟩) (by simp; omega) (.bool bb)
  have hgr : W.grownBy (W.setCell ⟨g, 1, none⟩ (.bool bb)) (some g) := only_setCell (World.grownBy.refl _ _) (.inl rfl) _
  have h3 := h.2.2.1.grown xaP (row := some g) hgr (fun g' e => ⟨fun h => h, fun e2 => by injection e with e; have := h.2.2.1.lt g' e2; omega⟩)
  have B0 := bel_alloc (Below.refl (W.setCell ⟨g, 1, none⟩ (.bool bb)).heap.size _) (.cells (xaV a) 39)
  have hlt := hk.lt
  have hb := Blk.new (W.setCell ⟨g, 1, none⟩ (.bool bb)) 39 (xaV a)
  have e1 : (W.setCell ⟨g, 1, none⟩ (.bool bb)).heap.size = W.heap.size := by simp
  rw [e1] at hb
  refine ⟨h3.bel xaP B0, ?_, ?_, hk.alloc _, B0.mono (by omega)⟩
  · exact RwR.blk1 (w := opW W g bb a) hb ⟨rfl, by omega, by omega⟩
  · unfold opW; simp; rw [e1] at hlt; omega
theorem readL_len : ∀ (n : Nat) (l : List UInt8), l.length ≤ n → (readL l).length ≤ 4 * l.length
  | _, [], _ => by simp [readL_nil]
  | 0, c :: t, h => by simp at h
  | n + 1, c :: t, h => by
    simp only [List.length_cons] at h ⊢
    by_cases h38 : c = 38
    · subst h38
      cases hs : signAt t with
      | none =>
        rw [readL_amp hs]
        have := readL_len n t (by omega)
        simp only [List.length_cons]
        omega
      | some rn =>
        obtain ⟨r, d⟩ := rn
        rw [readL_sign hs]
        have := readL_len n (t.drop d) (by rw [List.length_drop]; omega)
        have he := enc_len r
        rw [List.length_drop] at this
        rw [List.length_append]
        omega
    · rw [readL_plain c t h38]
      have := readL_len n t (by omega)
      simp only [List.length_cons]
      omega
theorem cValue_len (s : XS) : (cValue s).1.length ≤ 4 * s.1.length ∧ (cValue s).2.1.length ≤ s.1.length := by
  have key : ∀ r : List UInt8 × XS, (finV r).1.length ≤ 4 * r.1.length ∧ (finV r).2.1 = r.2.1 := fun r => ⟨readL_len _ _ (Nat.le_refl _), rfl⟩
  unfold cValue
  split
  · have h1 := key (cUpto [34] (cTake [34] s))
    have h2 := cUpto_len [34] (cTake [34] s)
    have h3 := cTake_len [34] s
    rw [h1.2]
    have := h1.1
    omega
  · have h1 := key (cUpto [39] (cMust [39] (cTake [34] s)))
    have h2 := cUpto_len [39] (cMust [39] (cTake [34] s))
    have h3 := cTake_len [34] s
    have h4 := cMust_len [39] (cTake [34] s)
    rw [h1.2]
    have := h1.1
    omega
theorem cAttr_len (s : XS) : (cAttr s).1.nm.length ≤ s.1.length ∧ (cAttr s).1.vl.length ≤ 4 * s.1.length ∧ (cAttr s).2.1.length ≤ s.1.length := by
  have h1 := cName_len s
  have h2 := cBlank_len (cName s).2
  have h3 := cMust_len [61] (cBlank (cName s).2)
  have h4 : (cAttr3 s).1.length ≤ (cMust [61] (cBlank (cName s).2)).1.length := cBlank_len _
  unfold cAttr
  split
  · exact ⟨h1.2, by simp, by simp only; omega⟩
  · have h5 := cValue_len (cAttr3 s)
    refine ⟨h1.2, ?_, ?_⟩
    · show (cValue (cAttr3 s)).1.length ≤ _
      omega
    · show (cValue (cAttr3 s)).2.1.length ≤ _
      omega
set_option maxHeartbeats 8000000 in
theorem open8_any (g : Nat) (l : List UInt8) (w : World) (hB : XrB w g l false) (hl : l.length ≤ 100000) (hM : ML w) :
    Calls Try.prog 36 #[.pointer (some ⟨g, 0, none⟩)] w (RetOp w g (openN l)) := by
  have hg := Blk.lt hB
  have HC1 := Lib.hid (name8_any g (l, false) w hB (show l.length ≤ 1000000 by omega))
  have l1 := cName_len (l, false)
  have hT : ((cName (l, false)).2.2 = false → openN l = openD (cName (l, false)).1 32 [] (cName (l, false)).2.1) ∧ ((cName (l, false)).2.2 = true → openN l = none) := by
    unfold openN
    rcases hn : nameD l with _ | ⟨n, r⟩
    · have := cName_none hn
      exact ⟨fun h => by (rw [this] at h; cases h), fun _ => rfl⟩
    · have := cName_some hn
      rw [this]
      exact ⟨fun _ => rfl, fun h => by cases h⟩
  generalize openN l = tot at *
  generalize cName (l, false) = rr at *
  obtain ⟨n, s2⟩ := rr
  simp only at *
  have HT := Lib.hid hT
  have HM := Lib.hid hM
  have HB := Lib.hid hB
  have hn : n.length ≤ 100000 := by omega
  clear hT hM hB
  go_enter Try.func36, Try.ntmps36
  go_wp2_with fail
  (with_reducible refine (HC1.out).mono ?_)
  rintro e w1 ⟨rfl, h1, h2⟩
  have hsz1 := h2.size
  obtain ⟨k, hk⟩ : ∃ k, w1.heap.size = k := ⟨_, rfl⟩
  have F0 : Hid (OpF w (w1.alloc (.cells #[.int .i64 1, .string ⟨n.toArray⟩, .slice none 0 0, .string ⟨#[]⟩] 36)) g k n s2 none 0 0 []) := Lib.hid ⟨h1.alloc _, hk ▸ Blk.new w1 _ _, RwO.nil, ML.below (HM.out.xr HB.out h2) (bel_alloc (Below.refl _ _) _), grown_alloc h2 _⟩
  rw [hk] at hsz1
  clear h1 h2 HC1
  go_wp2_with fail
  go_loopw [] (fun wr => ∃ (ats : List Xat) (A : Option Addr) (m c : Nat) (l2 : List UInt8) (b2 : Bool), Hid (OpF w wr g k n (l2, b2) A m c ats) ∧ l2.length ≤ 100000 ∧ Hid (b2 = false → ats.length ≤ 32 ∧ tot = openD n (32 - ats.length) ats l2) ∧ Hid (b2 = true → tot = none)) (fun wr => strL (wr.cell? ⟨g, 0, none⟩) + goodL (wr.cell? ⟨g, 1, none⟩))
  case atStart => exact ⟨[], none, 0, 0, s2.1, s2.2, F0, by omega, Lib.hid (fun h => ⟨by simp, HT.out.1 h⟩), Lib.hid HT.out.2⟩
  case round =>
    obtain ⟨ats, A, m, c, l2, b2, HF, hl2, HT1, HT2⟩ := hrel
    clear HT F0
    have c1 := Blk.cell HF.out.1 1
    simp at c1
    cases b2 with
    | true =>
      have HN : Hid (tot = none) := Lib.hid (HT2.out rfl)
      go_wp2_with fail
      go_ret
      rw [HN.out]
      exact ⟨l2, none, 0, 0, rfl, RwA.nil _, Nat.le_refl _, by omega, HF.out.1, HF.out.2.2.2.2⟩
    | false =>
      have HO : Hid (ats.length ≤ 32 ∧ tot = openD n (32 - ats.length) ats l2) := Lib.hid (HT1.out rfl)
      have ld := dropW_len blkB l2
      have HC2 := blank8_any g (l2, false) wr HF.out.1 (show l2.length ≤ 1000000 by omega)
      unfold cBlank at HC2
      simp only at HC2
      have HC2 := Lib.hid HC2
      clear HT1 HT2
      cases p62 : Lib.hasPrefix (l2.dropWhile blkB) [62] with
      | true =>
        have HV : Hid (tot = some ([⟨1, n, ats, []⟩], (l2.dropWhile blkB).drop 1)) := Lib.hid (by rw [HO.out.2]; exact openD_62 p62)
        clear HO
        generalize (!(l2.takeWhile blkB).isEmpty) = q at *
        generalize l2.dropWhile blkB = d at *
        go_wp2_with fail
        (with_reducible refine (HC2.out).mono ?_)
        rintro e w2 ⟨rfl, h1, h2⟩
        have F2 := Lib.hid (HF.out.xr (s2 := (d, false)) (by omega) h1 h2)
        have HT62 := take8_any g [62] (d, false) w2 h1
        unfold cTake at HT62
        simp only [p62, if_true] at HT62
        have HT62 := Lib.hid HT62
        clear HF HC2 h1 h2 p62 c1
        go_wp2_with fail
        (with_reducible refine (HT62.out).mono ?_)
        rintro e w3 ⟨rfl, h1, h2⟩
        have F3 := Lib.hid (F2.out.xr (s2 := (d.drop 1, false)) (by omega) h1 h2)
        clear F2 HT62 h1 h2
        have x0 := F3.out.2.1.cell 0
        have x1 := F3.out.2.1.cell 1
        have x2 := F3.out.2.1.cell 2
        have x3 := F3.out.2.1.cell 3
        simp at x0 x1 x2 x3
        have hsz3 := F3.out.2.2.2.2.size
        go_wp2_with fail
        go_ret
        rw [HV.out]
        exact ⟨_, _, _, rfl, xt_lit hsz3 (xt_open F3.out.2.2.1 (by omega) hn), Nat.le_refl _, by omega, F3.out.1.alloc _, grown_alloc F3.out.2.2.2.2 _⟩
      | false =>
        cases p47 : Lib.hasPrefix (l2.dropWhile blkB) [47, 62] with
        | true =>
          have HV : Hid (tot = some ([⟨1, n, ats, []⟩, ⟨2, n, [], []⟩], (l2.dropWhile blkB).drop 2)) := Lib.hid (by rw [HO.out.2]; exact openD_47 p62 p47)
          clear HO
          generalize (!(l2.takeWhile blkB).isEmpty) = q at *
          generalize l2.dropWhile blkB = d at *
          go_wp2_with fail
          (with_reducible refine (HC2.out).mono ?_)
          rintro e w2 ⟨rfl, h1, h2⟩
          have F2 := Lib.hid (HF.out.xr (s2 := (d, false)) (by omega) h1 h2)
          have HT62 := take8_any g [62] (d, false) w2 h1
          unfold cTake at HT62
          simp only [p62, Bool.false_eq_true, if_false] at HT62
          have HT62 := Lib.hid HT62
          clear HF HC2 h1 h2 p62 c1
          go_wp2_with fail
          (with_reducible refine (HT62.out).mono ?_)
          rintro e w3 ⟨rfl, h1, h2⟩
          have F3 := Lib.hid (F2.out.xr (s2 := (d, false)) (by omega) h1 h2)
          have HT47 := take8_any g [47, 62] (d, false) w3 h1
          unfold cTake at HT47
          simp only [p47, if_true] at HT47
          have HT47 := Lib.hid HT47
          clear F2 HT62 h1 h2 p47
          go_wp2_with fail
          (with_reducible refine (HT47.out).mono ?_)
          rintro e w4 ⟨rfl, h1, h2⟩
          have F4 := Lib.hid (F3.out.xr (s2 := (d.drop 2, false)) (by omega) h1 h2)
          clear F3 HT47 h1 h2
          have x0 := F4.out.2.1.cell 0
          have x1 := F4.out.2.1.cell 1
          have x2 := F4.out.2.1.cell 2
          have x3 := F4.out.2.1.cell 3
          simp at x0 x1 x2 x3
          have hsz4 := F4.out.2.2.2.2.size
          go_wp2_with fail
          go_ret
          rw [HV.out]
          exact ⟨_, _, _, rfl, xt_lit2 hsz4 (xt_open F4.out.2.2.1 (by omega) hn) (xt_plain 2 n [] (by omega) (by omega) (by simp)), Nat.le_refl _, by omega, F4.out.1.alloc _, grown_alloc F4.out.2.2.2.2 _⟩
        | false =>
          have ha := cAttr_of (l2.dropWhile blkB)
          have HX := Lib.hid (fun (W : World) (h : XrB W g (l2.dropWhile blkB) false) (h2 : ML W) => attr8_any g (l2.dropWhile blkB, false) W h (show (l2.dropWhile blkB).length ≤ 100000 by omega) h2)
          have hlen := cAttr_len (l2.dropWhile blkB, false)
          have c0 := Blk.cell HF.out.1 0
          simp at c0
          have HM0 := Lib.hid (And.intro c0 c1)
          have hml : ats.length = m := HF.out.2.2.1.len
          clear c0
          cases had : attrD (l2.dropWhile blkB) with
          | none =>
            have HN2 : Hid (true = true → tot = none) := Lib.hid (fun _ => by rw [HO.out.2]; exact openD_attr p62 p47 had)
            have HN1 : Hid (true = false → (ats ++ [(cAttr (l2.dropWhile blkB, false)).1]).length ≤ 32 ∧ tot = openD n (32 - (ats ++ [(cAttr (l2.dropWhile blkB, false)).1]).length) (ats ++ [(cAttr (l2.dropWhile blkB, false)).1]) (cAttr (l2.dropWhile blkB, false)).2.1) := Lib.hid (fun h => by cases h)
            have hm32 := HO.out.1
            have hbad := ha.2 had
            clear HO ha had
            generalize (!(l2.takeWhile blkB).isEmpty) = q at *
            generalize l2.dropWhile blkB = d at *
            generalize cAttr (d, false) = r at *
            obtain ⟨a, l3, b3⟩ := r
            simp only at hbad hlen
            subst hbad
            have hal : a.nm.length ≤ 1000000 ∧ a.vl.length ≤ 1000000 := by omega
            go_wp2_with fail
            (with_reducible refine (HC2.out).mono ?_)
            rintro e w2 ⟨rfl, h1, h2⟩
            have F2 := Lib.hid (HF.out.xr (s2 := (d, false)) (by omega) h1 h2)
            have HT62 := take8_any g [62] (d, false) w2 h1
            unfold cTake at HT62
            simp only [p62, Bool.false_eq_true, if_false] at HT62
            have HT62 := Lib.hid HT62
            clear HF HC2 h1 h2 p62 c1
            go_wp2_with fail
            (with_reducible refine (HT62.out).mono ?_)
            rintro e w3 ⟨rfl, h1, h2⟩
            have F3 := Lib.hid (F2.out.xr (s2 := (d, false)) (by omega) h1 h2)
            have HT47 := take8_any g [47, 62] (d, false) w3 h1
            unfold cTake at HT47
            simp only [p47, Bool.false_eq_true, if_false] at HT47
            have HT47 := Lib.hid HT47
            clear F2 HT62 h1 h2 p47
            go_wp2_with fail
            (with_reducible refine (HT47.out).mono ?_)
            rintro e w4 ⟨rfl, h1, h2⟩
            have F4 := Lib.hid (F3.out.xr (s2 := (d, false)) (by omega) h1 h2)
            have HXX := Lib.hid (HX.out w4 h1 F4.out.2.2.2.1)
            clear F3 HT47 h1 h2 HX
            go_wp2_with fail
            (with_reducible refine (HXX.out).mono ?_)
            rintro e w5 ⟨rfl, h1, h2⟩
            simp only [xaV]
            have F5 := Lib.hid (F4.out.xr (s2 := (l3, true)) (by omega) h1 h2)
            clear F4 HXX h1 h2
            have F6 := Lib.hid (F5.out.bel (bel_alloc (Below.refl w5.heap.size w5) (.cells (xaV a) 39)))
            have A6 := Lib.hid (Blk.new w5 39 (xaV a))
            obtain ⟨q5, hq5⟩ : ∃ q5, w5.heap.size = q5 := ⟨_, rfl⟩
            have hkq : k < w5.heap.size := F5.out.2.1.lt
            rw [hq5] at A6 hkq
            clear F5
            have R := F6.out.ready (by omega) a hal true (sz := q5 + 1) (by simp [hq5])
            have R2 := Lib.hid R.2.2.2
            have ho := R.1
            have hr := R.2.1
            have hba := R.2.2.1
            clear R
            unfold opW at ho hr hba
            have y1 := F6.out.1.cell 1
            have yf := F6.out.1.frozen
            have x2 := F6.out.2.1.cell 2
            have a0 := A6.out.cell 0
            have a1 := A6.out.cell 1
            simp [xaV] at y1 x2 a0 a1
            simp only [xaV] at ho hr hba R2 yf
            go_wp2_with (at_builtin; go_loud (refine wpList_appZ xaP iXas rfl rfl rfl ho rfl hr (by omega) (by omega) hba ?_; intro A' c' w7 ho7 hb7 hgr7; have x7 := (R2.out.1.below hb7 (by omega)).cell 2; have f7 := (R2.out.1.below hb7 (by omega)).frozen; simp at x7))
            have ON := Lib.hid (OpF.more F6.out (by omega) hsz1 HM.out HB.out ho7 ((R2.out.2).trans hb7))
            go_roundw
            case rel => exact ⟨ats ++ [a], A', m + 1, c', l3, true, ON, by omega, Lib.hid (fun h => by first | exact HN1.out h | exact HN1.out trivial | exact HN1.out rfl), Lib.hid (fun h => by first | exact HN2.out h | exact HN2.out trivial | exact HN2.out rfl)⟩
            case measure =>
              have e0 := ON.out.1.cell 0
              have e1 := ON.out.1.cell 1
              simp at e0 e1
              simp only [e0, e1, HM0.out.1, HM0.out.2, strL, goodL, size_of]
              omega
          | some ab =>
            obtain ⟨a, b⟩ := ab
            have hca := ha.1 a b had
            rw [hca] at hlen
            have hbl := attrD_len had
            have HX := HX.out
            rw [hca] at HX
            have HX := Lib.hid HX
            have hm32 := HO.out.1
            simp only at hlen
            have hal : a.nm.length ≤ 1000000 ∧ a.vl.length ≤ 1000000 := by omega
            obtain ⟨l3, hl3⟩ : ∃ l3, l3 = b := ⟨_, rfl⟩
            subst hl3
            have HNM := Lib.hid (fun (W : World) (hk : XaA W (fun _ => True) A m ats) (hc : m ≤ c ∧ c ≤ 9223372036854775807) => named8_any a.nm ats A m c W (fun _ => True) hc hk)
            have HN1t : Hid (true = false → (ats ++ [a]).length ≤ 32 ∧ tot = openD n (32 - (ats ++ [a]).length) (ats ++ [a]) l3) := Lib.hid (fun h => by cases h)
            have HP62 := Lib.hid p62
            have HP47 := Lib.hid p47
            have HAD := Lib.hid had
            have HL3 := Lib.hid hbl
            clear ha had hca
            cases q : (!(l2.takeWhile blkB).isEmpty) with
            | false =>
              have HN2 : Hid (true = true → tot = none) := Lib.hid (fun _ => by rw [HO.out.2]; exact openD_apart p62 p47 q)
              have HN1 := HN1t
              rw [q] at HC2
              clear HO HNM HN1t HP62 HP47 HAD q
              generalize l2.dropWhile blkB = d at *
              go_wp2_with fail
              (with_reducible refine (HC2.out).mono ?_)
              rintro e w2 ⟨rfl, h1, h2⟩
              have F2 := Lib.hid (HF.out.xr (s2 := (d, false)) (by omega) h1 h2)
              have HT62 := take8_any g [62] (d, false) w2 h1
              unfold cTake at HT62
              simp only [p62, Bool.false_eq_true, if_false] at HT62
              have HT62 := Lib.hid HT62
              clear HF HC2 h1 h2 p62 c1
              go_wp2_with fail
              (with_reducible refine (HT62.out).mono ?_)
              rintro e w3 ⟨rfl, h1, h2⟩
              have F3 := Lib.hid (F2.out.xr (s2 := (d, false)) (by omega) h1 h2)
              have HT47 := take8_any g [47, 62] (d, false) w3 h1
              unfold cTake at HT47
              simp only [p47, Bool.false_eq_true, if_false] at HT47
              have HT47 := Lib.hid HT47
              clear F2 HT62 h1 h2 p47
              go_wp2_with fail
              (with_reducible refine (HT47.out).mono ?_)
              rintro e w4 ⟨rfl, h1, h2⟩
              have F4 := Lib.hid (F3.out.xr (s2 := (d, false)) (by omega) h1 h2)
              have HXX := Lib.hid (HX.out w4 h1 F4.out.2.2.2.1)
              clear F3 HT47 h1 h2 HX
              go_wp2_with fail
              (with_reducible refine (HXX.out).mono ?_)
              rintro e w5 ⟨rfl, h1, h2⟩
              simp only [xaV]
              have F5 := Lib.hid (F4.out.xr (s2 := (l3, false)) (by omega) h1 h2)
              clear F4 HXX h1 h2
              have F6 := Lib.hid (F5.out.bel (bel_alloc (Below.refl w5.heap.size w5) (.cells (xaV a) 39)))
              have A6 := Lib.hid (Blk.new w5 39 (xaV a))
              obtain ⟨q5, hq5⟩ : ∃ q5, w5.heap.size = q5 := ⟨_, rfl⟩
              have hkq : k < w5.heap.size := F5.out.2.1.lt
              rw [hq5] at A6 hkq
              clear F5
              have R := F6.out.ready (by omega) a hal true (sz := q5 + 1) (by simp [hq5])
              have R2 := Lib.hid R.2.2.2
              have ho := R.1
              have hr := R.2.1
              have hba := R.2.2.1
              clear R
              unfold opW at ho hr hba
              have y1 := F6.out.1.cell 1
              have yf := F6.out.1.frozen
              have x2 := F6.out.2.1.cell 2
              have a0 := A6.out.cell 0
              have a1 := A6.out.cell 1
              simp [xaV] at y1 x2 a0 a1
              simp only [xaV] at ho hr hba R2 yf
              go_wp2_with (at_builtin; go_loud (refine wpList_appZ xaP iXas rfl rfl rfl ho rfl hr (by omega) (by omega) hba ?_; intro A' c' w7 ho7 hb7 hgr7; have x7 := (R2.out.1.below hb7 (by omega)).cell 2; have f7 := (R2.out.1.below hb7 (by omega)).frozen; simp at x7))
              have ON := Lib.hid (OpF.more F6.out (by omega) hsz1 HM.out HB.out ho7 ((R2.out.2).trans hb7))
              go_roundw
              case rel => exact ⟨ats ++ [a], A', m + 1, c', l3, true, ON, by omega, Lib.hid (fun h => by first | exact HN1.out h | exact HN1.out trivial | exact HN1.out rfl), Lib.hid (fun h => by first | exact HN2.out h | exact HN2.out trivial | exact HN2.out rfl)⟩
              case measure =>
                have e0 := ON.out.1.cell 0
                have e1 := ON.out.1.cell 1
                simp at e0 e1
                simp only [e0, e1, HM0.out.1, HM0.out.2, strL, goodL, size_of]
                omega
            | true =>
              rw [q] at HC2
              cases hnm : hasNm ats a.nm with
              | true =>
                have HN2 : Hid (true = true → tot = none) := Lib.hid (fun _ => by rw [HO.out.2]; exact openD_full p62 p47 HAD.out (.inr hnm))
                have HN1 := HN1t
                rw [hnm] at HNM
                clear HO HN1t HP62 HP47 HAD q hnm
                generalize l2.dropWhile blkB = d at *
                go_wp2_with fail
                (with_reducible refine (HC2.out).mono ?_)
                rintro e w2 ⟨rfl, h1, h2⟩
                have F2 := Lib.hid (HF.out.xr (s2 := (d, false)) (by omega) h1 h2)
                have HT62 := take8_any g [62] (d, false) w2 h1
                unfold cTake at HT62
                simp only [p62, Bool.false_eq_true, if_false] at HT62
                have HT62 := Lib.hid HT62
                clear HF HC2 h1 h2 p62 c1
                go_wp2_with fail
                (with_reducible refine (HT62.out).mono ?_)
                rintro e w3 ⟨rfl, h1, h2⟩
                have F3 := Lib.hid (F2.out.xr (s2 := (d, false)) (by omega) h1 h2)
                have HT47 := take8_any g [47, 62] (d, false) w3 h1
                unfold cTake at HT47
                simp only [p47, Bool.false_eq_true, if_false] at HT47
                have HT47 := Lib.hid HT47
                clear F2 HT62 h1 h2 p47
                go_wp2_with fail
                (with_reducible refine (HT47.out).mono ?_)
                rintro e w4 ⟨rfl, h1, h2⟩
                have F4 := Lib.hid (F3.out.xr (s2 := (d, false)) (by omega) h1 h2)
                have HXX := Lib.hid (HX.out w4 h1 F4.out.2.2.2.1)
                clear F3 HT47 h1 h2 HX
                go_wp2_with fail
                (with_reducible refine (HXX.out).mono ?_)
                rintro e w5 ⟨rfl, h1, h2⟩
                simp only [xaV]
                have F5 := Lib.hid (F4.out.xr (s2 := (l3, false)) (by omega) h1 h2)
                clear F4 HXX h1 h2
                have F6 := Lib.hid (F5.out.bel (bel_alloc (Below.refl w5.heap.size w5) (.cells (xaV a) 39)))
                have A6 := Lib.hid (Blk.new w5 39 (xaV a))
                obtain ⟨q5, hq5⟩ : ∃ q5, w5.heap.size = q5 := ⟨_, rfl⟩
                have hkq : k < w5.heap.size := F5.out.2.1.lt
                rw [hq5] at A6 hkq
                clear F5
                have y1 := F6.out.1.cell 1
                have x2 := F6.out.2.1.cell 2
                have a0 := A6.out.cell 0
                simp [xaV] at y1 x2 a0
                have HNM2 := Lib.hid (HNM.out _ (F6.out.2.2.1.qs xaP (fun _ _ _ => trivial) (fun _ _ _ => trivial)) F6.out.2.2.1.cap)
                clear HNM
                simp only [xaV] at HNM2
                go_wp2_with fail
                (with_reducible refine (HNM2.out).mono ?_)
                rintro e w6 ⟨rfl, hb6⟩
                have F7 := Lib.hid (F6.out.bel hb6)
                have A7 := Lib.hid (A6.out.below hb6 A6.out.lt)
                clear F6 A6 HNM2 y1 x2 a0 hb6
                have R := F7.out.ready (by omega) a hal true rfl
                have R2 := Lib.hid R.2.2.2
                have ho := R.1
                have hr := R.2.1
                have hba := R.2.2.1
                clear R
                unfold opW at ho hr hba
                have y1 := F7.out.1.cell 1
                have yf := F7.out.1.frozen
                have x2 := F7.out.2.1.cell 2
                have a0 := A7.out.cell 0
                have a1 := A7.out.cell 1
                simp [xaV] at y1 x2 a0 a1
                simp only [xaV] at ho hr hba R2 yf
                go_wp2_with (at_builtin; go_loud (refine wpList_appZ xaP iXas rfl rfl rfl ho rfl hr (by omega) (by omega) hba ?_; intro A' c' w7 ho7 hb7 hgr7; have x7 := (R2.out.1.below hb7 (by omega)).cell 2; have f7 := (R2.out.1.below hb7 (by omega)).frozen; simp at x7))
                have ON := Lib.hid (OpF.more F7.out (by omega) hsz1 HM.out HB.out ho7 ((R2.out.2).trans hb7))
                go_roundw
                case rel => exact ⟨ats ++ [a], A', m + 1, c', l3, true, ON, by omega, Lib.hid (fun h => by first | exact HN1.out h | exact HN1.out trivial | exact HN1.out rfl), Lib.hid (fun h => by first | exact HN2.out h | exact HN2.out trivial | exact HN2.out rfl)⟩
                case measure =>
                  have e0 := ON.out.1.cell 0
                  have e1 := ON.out.1.cell 1
                  simp at e0 e1
                  simp only [e0, e1, HM0.out.1, HM0.out.2, strL, goodL, size_of]
                  omega
              | false =>
                by_cases h32 : 32 ≤ m
                · have hd32 : decide ((32 : Int) ≤ (m : Int)) = true := by simp; omega
                  have HN2 : Hid (true = true → tot = none) := Lib.hid (fun _ => by rw [HO.out.2]; exact openD_full p62 p47 HAD.out (.inl (by omega)))
                  have HN1 := HN1t
                  rw [hnm] at HNM
                  clear HO HN1t HP62 HP47 HAD q hnm
                  generalize l2.dropWhile blkB = d at *
                  go_wp2_with fail
                  (with_reducible refine (HC2.out).mono ?_)
                  rintro e w2 ⟨rfl, h1, h2⟩
                  have F2 := Lib.hid (HF.out.xr (s2 := (d, false)) (by omega) h1 h2)
                  have HT62 := take8_any g [62] (d, false) w2 h1
                  unfold cTake at HT62
                  simp only [p62, Bool.false_eq_true, if_false] at HT62
                  have HT62 := Lib.hid HT62
                  clear HF HC2 h1 h2 p62 c1
                  go_wp2_with fail
                  (with_reducible refine (HT62.out).mono ?_)
                  rintro e w3 ⟨rfl, h1, h2⟩
                  have F3 := Lib.hid (F2.out.xr (s2 := (d, false)) (by omega) h1 h2)
                  have HT47 := take8_any g [47, 62] (d, false) w3 h1
                  unfold cTake at HT47
                  simp only [p47, Bool.false_eq_true, if_false] at HT47
                  have HT47 := Lib.hid HT47
                  clear F2 HT62 h1 h2 p47
                  go_wp2_with fail
                  (with_reducible refine (HT47.out).mono ?_)
                  rintro e w4 ⟨rfl, h1, h2⟩
                  have F4 := Lib.hid (F3.out.xr (s2 := (d, false)) (by omega) h1 h2)
                  have HXX := Lib.hid (HX.out w4 h1 F4.out.2.2.2.1)
                  clear F3 HT47 h1 h2 HX
                  go_wp2_with fail
                  (with_reducible refine (HXX.out).mono ?_)
                  rintro e w5 ⟨rfl, h1, h2⟩
                  simp only [xaV]
                  have F5 := Lib.hid (F4.out.xr (s2 := (l3, false)) (by omega) h1 h2)
                  clear F4 HXX h1 h2
                  have F6 := Lib.hid (F5.out.bel (bel_alloc (Below.refl w5.heap.size w5) (.cells (xaV a) 39)))
                  have A6 := Lib.hid (Blk.new w5 39 (xaV a))
                  obtain ⟨q5, hq5⟩ : ∃ q5, w5.heap.size = q5 := ⟨_, rfl⟩
                  have hkq : k < w5.heap.size := F5.out.2.1.lt
                  rw [hq5] at A6 hkq
                  clear F5
                  have y1 := F6.out.1.cell 1
                  have x2 := F6.out.2.1.cell 2
                  have a0 := A6.out.cell 0
                  simp [xaV] at y1 x2 a0
                  have HNM2 := Lib.hid (HNM.out _ (F6.out.2.2.1.qs xaP (fun _ _ _ => trivial) (fun _ _ _ => trivial)) F6.out.2.2.1.cap)
                  clear HNM
                  simp only [xaV] at HNM2
                  go_wp2_with fail
                  (with_reducible refine (HNM2.out).mono ?_)
                  rintro e w6 ⟨rfl, hb6⟩
                  have F7 := Lib.hid (F6.out.bel hb6)
                  have A7 := Lib.hid (A6.out.below hb6 A6.out.lt)
                  clear F6 A6 HNM2 y1 x2 a0 hb6
                  have R := F7.out.ready (by omega) a hal true rfl
                  have R2 := Lib.hid R.2.2.2
                  have ho := R.1
                  have hr := R.2.1
                  have hba := R.2.2.1
                  clear R
                  unfold opW at ho hr hba
                  have y1 := F7.out.1.cell 1
                  have yf := F7.out.1.frozen
                  have x2 := F7.out.2.1.cell 2
                  have a0 := A7.out.cell 0
                  have a1 := A7.out.cell 1
                  simp [xaV] at y1 x2 a0 a1
                  simp only [xaV] at ho hr hba R2 yf
                  go_wp2_with (at_builtin; go_loud (refine wpList_appZ xaP iXas rfl rfl rfl ho rfl hr (by omega) (by omega) hba ?_; intro A' c' w7 ho7 hb7 hgr7; have x7 := (R2.out.1.below hb7 (by omega)).cell 2; have f7 := (R2.out.1.below hb7 (by omega)).frozen; simp at x7))
                  have ON := Lib.hid (OpF.more F7.out (by omega) hsz1 HM.out HB.out ho7 ((R2.out.2).trans hb7))
                  go_roundw
                  case rel => exact ⟨ats ++ [a], A', m + 1, c', l3, true, ON, by omega, Lib.hid (fun h => by first | exact HN1.out h | exact HN1.out trivial | exact HN1.out rfl), Lib.hid (fun h => by first | exact HN2.out h | exact HN2.out trivial | exact HN2.out rfl)⟩
                  case measure =>
                    have e0 := ON.out.1.cell 0
                    have e1 := ON.out.1.cell 1
                    simp at e0 e1
                    simp only [e0, e1, HM0.out.1, HM0.out.2, strL, goodL, size_of]
                    omega
                · have hd32 : decide ((32 : Int) ≤ (m : Int)) = false := by simp; omega
                  have HN2 : Hid (false = true → tot = none) := Lib.hid (fun h => by cases h)
                  have HN1 : Hid (false = false → (ats ++ [a]).length ≤ 32 ∧ tot = openD n (32 - (ats ++ [a]).length) (ats ++ [a]) l3) := Lib.hid (fun _ => by
                    have e : 32 - ats.length = (32 - (ats ++ [a]).length) + 1 := by simp; omega
                    have h2 := HO.out.2
                    rw [e, openD_next p62 p47 q HAD.out hnm] at h2
                    exact ⟨by simp; omega, h2⟩)
                  rw [hnm] at HNM
                  clear HO HN1t HP62 HP47 HAD q hnm
                  generalize l2.dropWhile blkB = d at *
                  go_wp2_with fail
                  (with_reducible refine (HC2.out).mono ?_)
                  rintro e w2 ⟨rfl, h1, h2⟩
                  have F2 := Lib.hid (HF.out.xr (s2 := (d, false)) (by omega) h1 h2)
                  have HT62 := take8_any g [62] (d, false) w2 h1
                  unfold cTake at HT62
                  simp only [p62, Bool.false_eq_true, if_false] at HT62
                  have HT62 := Lib.hid HT62
                  clear HF HC2 h1 h2 p62 c1
                  go_wp2_with fail
                  (with_reducible refine (HT62.out).mono ?_)
                  rintro e w3 ⟨rfl, h1, h2⟩
                  have F3 := Lib.hid (F2.out.xr (s2 := (d, false)) (by omega) h1 h2)
                  have HT47 := take8_any g [47, 62] (d, false) w3 h1
                  unfold cTake at HT47
                  simp only [p47, Bool.false_eq_true, if_false] at HT47
                  have HT47 := Lib.hid HT47
                  clear F2 HT62 h1 h2 p47
                  go_wp2_with fail
                  (with_reducible refine (HT47.out).mono ?_)
                  rintro e w4 ⟨rfl, h1, h2⟩
                  have F4 := Lib.hid (F3.out.xr (s2 := (d, false)) (by omega) h1 h2)
                  have HXX := Lib.hid (HX.out w4 h1 F4.out.2.2.2.1)
                  clear F3 HT47 h1 h2 HX
                  go_wp2_with fail
                  (with_reducible refine (HXX.out).mono ?_)
                  rintro e w5 ⟨rfl, h1, h2⟩
                  simp only [xaV]
                  have F5 := Lib.hid (F4.out.xr (s2 := (l3, false)) (by omega) h1 h2)
                  clear F4 HXX h1 h2
                  have F6 := Lib.hid (F5.out.bel (bel_alloc (Below.refl w5.heap.size w5) (.cells (xaV a) 39)))
                  have A6 := Lib.hid (Blk.new w5 39 (xaV a))
                  obtain ⟨q5, hq5⟩ : ∃ q5, w5.heap.size = q5 := ⟨_, rfl⟩
                  have hkq : k < w5.heap.size := F5.out.2.1.lt
                  rw [hq5] at A6 hkq
                  clear F5
                  have y1 := F6.out.1.cell 1
                  have x2 := F6.out.2.1.cell 2
                  have a0 := A6.out.cell 0
                  simp [xaV] at y1 x2 a0
                  have HNM2 := Lib.hid (HNM.out _ (F6.out.2.2.1.qs xaP (fun _ _ _ => trivial) (fun _ _ _ => trivial)) F6.out.2.2.1.cap)
                  clear HNM
                  simp only [xaV] at HNM2
                  go_wp2_with fail
                  (with_reducible refine (HNM2.out).mono ?_)
                  rintro e w6 ⟨rfl, hb6⟩
                  have F7 := Lib.hid (F6.out.bel hb6)
                  have A7 := Lib.hid (A6.out.below hb6 A6.out.lt)
                  clear F6 A6 HNM2 y1 x2 a0 hb6
                  have R := F7.out.ready (by omega) a hal false rfl
                  have R2 := Lib.hid R.2.2.2
                  have ho := R.1
                  have hr := R.2.1
                  have hba := R.2.2.1
                  clear R
                  unfold opW at ho hr hba
                  have y1 := F7.out.1.cell 1
                  have yf := F7.out.1.frozen
                  have x2 := F7.out.2.1.cell 2
                  have a0 := A7.out.cell 0
                  have a1 := A7.out.cell 1
                  simp [xaV] at y1 x2 a0 a1
                  simp only [xaV] at ho hr hba R2 yf
                  go_wp2_with (at_builtin; go_loud (refine wpList_appZ xaP iXas rfl rfl rfl ho rfl hr (by omega) (by omega) hba ?_; intro A' c' w7 ho7 hb7 hgr7; have x7 := (R2.out.1.below hb7 (by omega)).cell 2; have f7 := (R2.out.1.below hb7 (by omega)).frozen; simp at x7))
                  have ON := Lib.hid (OpF.more F7.out (by omega) hsz1 HM.out HB.out ho7 ((R2.out.2).trans hb7))
                  go_roundw
                  case rel => exact ⟨ats ++ [a], A', m + 1, c', l3, false, ON, by omega, Lib.hid (fun h => by first | exact HN1.out h | exact HN1.out trivial | exact HN1.out rfl), Lib.hid (fun h => by first | exact HN2.out h | exact HN2.out trivial | exact HN2.out rfl)⟩
                  case measure =>
                    have e0 := ON.out.1.cell 0
                    have e1 := ON.out.1.cell 1
                    simp at e0 e1
                    simp only [e0, e1, HM0.out.1, HM0.out.2, strL, goodL, size_of]
                    omega
end Go.Proofs.Ytnagckdaleafdaa
