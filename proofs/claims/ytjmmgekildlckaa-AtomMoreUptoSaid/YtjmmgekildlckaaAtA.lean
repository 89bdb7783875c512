/-
  An attribute of an element: the code's and the document's.
  The link of an element: the code's and the document's.
  The date of an entry: the code's and the document's.
  The entry of an element: the code's and the document's (printed by gen_atd.py).
-/
import Derived.Test.YtjmmgekildlckaaRsC
import Derived.Test.YtjmmgekildlckaaRsE
import Derived.Test.YtjmmgekildlckaaRsF
section
namespace Go.Proofs.Ytjmmgekildlckaa
open Go.ChangeShapes Go.WideShapes Go.ChangeAt Go.Deep
open Go.RowKit Go.Nst
set_option maxRecDepth 100000
set_option linter.unusedVariables false
set_option linter.unusedSimpArgs false

/-- the first attribute of a name -/
def attrF (l : List Xat) (s : List UInt8) : Option Xat := l.find? fun a => a.nm == s
/-- its value -/
def attrE (e : Elm) (s : List UInt8) : Option (List UInt8) := (attrF e.ats s).map (·.vl)
def attV (o : Option (List UInt8)) : Value := .tuple #[.string ⟨(o.getD []).toArray⟩, .bool o.isSome]
/-- its place, or below 0 -/
def IdxA (w : World) (l : List Xat) (n : Nat) (o : Option Xat) (e : Ending) (w' : World) : Prop :=
  ∃ z : Int, e = .returned (.int .i64 z) ∧ Below w.heap.size w w' ∧ match o with
    | none => z = -1
    | some a => ∃ i : Nat, z = i ∧ i < n ∧ l[i]? = some a
theorem find_hit {l : List Xat} {k : Nat} {a : Xat} {s : List UInt8} (h : ∀ b ∈ l.take k, b.nm ≠ s) (hg : l[k]? = some a) (ha : a.nm = s) : attrF l s = some a := by
  obtain ⟨hk, hv⟩ := List.getElem?_eq_some_iff.1 hg
  have e : l = l.take k ++ a :: l.drop (k + 1) := by
    conv => lhs; rw [← List.take_append_drop k l]
    rw [List.drop_eq_getElem_cons hk, hv]
  unfold attrF
  rw [e, List.find?_append]
  have h1 : (l.take k).find? (fun a => a.nm == s) = none := List.find?_eq_none.2 fun b hb => by simpa using h b hb
  rw [h1, Option.none_or, List.find?_cons_of_pos (by simpa using ha)]
theorem find_no {l : List Xat} {s : List UInt8} (h : ∀ b ∈ l, b.nm ≠ s) : attrF l s = none := List.find?_eq_none.2 fun b hb => by simpa using h b hb
theorem take_step {l : List Xat} {k : Nat} {a : Xat} {s : List UInt8} (h : ∀ b ∈ l.take k, b.nm ≠ s) (hg : l[k]? = some a) (ha : a.nm ≠ s) : ∀ b ∈ l.take (k + 1), b.nm ≠ s := by
  intro b hb
  rw [List.take_add_one, hg] at hb
  rcases List.mem_append.1 hb with h1 | h1
  · exact h b h1
  · obtain rfl : b = a := by simpa using h1
    exact ha
theorem bs_eq (a b : List UInt8) : (a == b) = decide (a = b) := by
  rw [Bool.eq_iff_iff]
  simp
/-- the closure -/
theorem attr9_one (a : Xat) (s : List UInt8) (g : Nat) (w : World) (hg : w.cell? ⟨g, 0, none⟩ = some (.string ⟨s.toArray⟩)) :
    Calls Try.prog 32 #[.agg (xaV a), .pointer (some ⟨g, 0, none⟩)] w fun e w' => e = .returned (.bool (decide (a.nm = s))) ∧ Below w.heap.size w w' := by
  have B0 := Lib.hid (bel_alloc (Below.refl w.heap.size w) (.cells (xaV a) 51))
  have hlt := World.block_lt_of_cell? w _ hg
  have hg1 : (w.alloc (.cells (xaV a) 51)).cell? ⟨g, 0, none⟩ = some (.string ⟨s.toArray⟩) := (B0.out.cell hlt).trans hg
  have HB := Lib.hid (bs_eq a.nm s)
  generalize decide (a.nm = s) = b at *
  simp only [xaV] at *
  go_enter Try.func32, Try.ntmps32
  go_wp2_with fail
  go_ret
  exact ⟨by rw [← HB.out]; rfl, B0.out⟩
theorem indexA_any (l : List Xat) (s : List UInt8) (g : Nat) (A : Option Addr) (n c : Nat) (w : World) (S : Nat → Prop) (hc : n ≤ c ∧ c ≤ 9223372036854775807) (hA : XaA w S A n l) (hg : w.cell? ⟨g, 0, none⟩ = some (.string ⟨s.toArray⟩)) :
    Calls Try.prog 31 #[.slice A n c, .func (.func 32) #[] #[.pointer (some ⟨g, 0, none⟩)]] w (IdxA w l n (attrF l s)) := by
  have HA := Lib.hid hA
  have HG := Lib.hid hg
  have HGL := Lib.hid (World.block_lt_of_cell? w _ hg)
  have HLN := Lib.hid hA.len
  have hc1 := hc.1
  have hc2 := hc.2
  clear hA hg hc
  go_enter Try.func31, Try.ntmps31
  go_wp2_with fail
  go_loopw [8] (fun i wr => ∃ k : Nat, k ≤ n ∧ i = .int .i64 k ∧ Hid (∀ b ∈ l.take k, b.nm ≠ s) ∧ Below w.heap.size w wr) (fun i _ => n - (intOf i).toNat)
  case atStart => exact ⟨0, Nat.zero_le _, rfl, Lib.hid (by simp), Below.refl _ _⟩
  case round =>
    obtain ⟨k, hkl, rfl, HSF, hb⟩ := hrel
    have HBW := Lib.hid hb
    clear hb
    by_cases hlt : k < n
    · have hlt' : decide (k < n) = true := by simpa using hlt
      obtain ⟨a, b, off, HGA, rfl, hS, hbs, hn1, hn2, f0, f1⟩ := xa_at (HA.out.bel xaP HBW.out) hlt
      have HC := Lib.hid (attr9_one a s g wr ((HBW.out.cell HGL.out).trans HG.out))
      have HYES : Hid (a.nm = s → attrF l s = some a) := Lib.hid (fun h => find_hit HSF.out HGA.out h)
      have HNO : Hid (a.nm ≠ s → ∀ b ∈ l.take (k + 1), b.nm ≠ s) := Lib.hid (fun h => take_step HSF.out HGA.out h)
      obtain ⟨t, ht⟩ : ∃ t, t = decide (a.nm = s) := ⟨_, rfl⟩
      have HT := Lib.hid ht
      rw [← ht] at HC
      clear ht HSF hS
      simp only [xaV] at HC
      go_wp2_with fail
      (with_reducible refine (HC.out).mono ?_)
      rintro e w2 ⟨rfl, hb2⟩
      have HB3 := Lib.hid (bel_step HBW.out hb2)
      clear hb2 HC HBW
      cases t with
      | true =>
        go_wp2_with fail
        go_ret
        have h1 := HYES.out (of_decide_eq_true HT.out.symm)
        refine ⟨k, rfl, HB3.out, ?_⟩
        rw [h1]
        exact ⟨k, rfl, hlt, HGA.out⟩
      | false =>
        have HN2 := Lib.hid (HNO.out (of_decide_eq_false HT.out.symm))
        go_wp2_with fail
        go_roundw
        case rel => exact ⟨k + 1, by omega, by go_num, HN2, HB3.out⟩
        case measure => simp [intOf]; omega
    · obtain rfl : k = n := by omega
      have hlt' : decide (k < k) = false := by simp
      have HF : Hid (attrF l s = none) := Lib.hid (find_no (by have := HSF.out; rwa [List.take_of_length_le (by have := HLN.out; omega)] at this))
      clear HSF
      go_wp2_with fail
      go_ret
      refine ⟨-1, rfl, HBW.out, ?_⟩
      rw [HF.out]
set_option maxHeartbeats 2000000 in
theorem attr9_any (e : Elm) (A B : Option Addr) (c d : Nat) (s : List UInt8) (w : World) (S : Nat → Prop) (he : EmF w S e A c B d) :
    Calls Try.prog 22 #[.agg (emV e A e.ats.length c B e.kids.length d), .string ⟨s.toArray⟩] w fun e' w' => e' = .returned (attV (attrE e s)) ∧ Below w.heap.size w w' := by
  have b1 := bel_alloc (Below.refl w.heap.size w) (.cells (emV e A e.ats.length c B e.kids.length d) 25)
  have b2 := bel_alloc b1 (.cells #[.string ⟨s.toArray⟩] 9)
  have x1 := (Blk.new w 25 (emV e A e.ats.length c B e.kids.length d)).alloc (.cells #[.string ⟨s.toArray⟩] 9)
  have x2 := Blk.new (w.alloc (.cells (emV e A e.ats.length c B e.kids.length d) 25)) 9 #[.string ⟨s.toArray⟩]
  rw [show (w.alloc (.cells (emV e A e.ats.length c B e.kids.length d) 25)).heap.size = w.heap.size + 1 by simp] at x2
  have HC := Lib.hid (indexA_any e.ats s (w.heap.size + 1) A e.ats.length c _ S he.hc (he.hA.bel xaP b2) (by simp [x2.cell 0]))
  have HB := Lib.hid b2
  have X1 := Lib.hid x1
  have HA := Lib.hid he.hA
  obtain ⟨hca, hcb⟩ := he.hc
  obtain ⟨hda, hdb⟩ := he.hd
  have HV : Hid (attrE e s = (attrF e.ats s).map (·.vl)) := Lib.hid rfl
  clear he b1 b2 x1 x2
  simp only [emV] at *
  generalize attrF e.ats s = o at *
  generalize attrE e s = out at *
  cases o with
  | none =>
    have hv := HV.out
    simp only [Option.map_none] at hv
    subst hv
    go_enter Try.func22, Try.ntmps22
    go_wp2_with fail
    (with_reducible refine (HC.out).mono ?_)
    rintro _ w1 ⟨z, rfl, hb, hz⟩
    have hz : z = -1 := hz
    subst hz
    have HB1 := Lib.hid (bel_step HB.out hb)
    clear hb
    go_wp2_with fail
    go_ret2
    exact ⟨rfl, HB1.out⟩
  | some a =>
    have hv := HV.out
    simp only [Option.map_some] at hv
    subst hv
    go_enter Try.func22, Try.ntmps22
    go_wp2_with fail
    (with_reducible refine (HC.out).mono ?_)
    rintro _ w1 ⟨z, rfl, hb, hz⟩
    obtain ⟨i, rfl, hi, hg⟩ : ∃ i : Nat, z = i ∧ i < e.ats.length ∧ e.ats[i]? = some a := hz
    have HB1 := Lib.hid (bel_step HB.out hb)
    have Y1 := Lib.hid (X1.out.below hb X1.out.lt)
    clear hb HC HB X1
    obtain ⟨a', b, off, HGA, rfl, hS, hbs, hn1, hn2, f0, f1⟩ := xa_at (HA.out.bel xaP HB1.out) hi
    obtain rfl : a' = a := Option.some.inj (HGA.out.symm.trans hg)
    clear hg HGA hS HA
    have x1 := Y1.out.cell 1
    simp at x1
    have hi0 : decide ((i : Int) < 0) = false := by simp
    go_wp2_with fail
    go_ret2
    exact ⟨rfl, HB1.out⟩
end Go.Proofs.Ytjmmgekildlckaa
end
section
namespace Go.Proofs.Ytjmmgekildlckaa
open Go.ChangeShapes Go.WideShapes Go.ChangeAt Go.Deep
open Go.RowKit Go.Nst
set_option maxRecDepth 100000
set_option linter.unusedVariables false
set_option linter.unusedSimpArgs false

def sLnk : List UInt8 := [108, 105, 110, 107]
def sRel : List UInt8 := [114, 101, 108]
def sHref : List UInt8 := [104, 114, 101, 102]
def sAlt : List UInt8 := [97, 108, 116, 101, 114, 110, 97, 116, 101]
/-- the address of a kid that is a link -/
def hrefD (k : Elm) : Option (List UInt8) := match attrE k sHref with
  | none => none
  | some x => match attrE k sRel with
    | none => some x
    | some r => if r = sAlt then some x else none
/-- of the first one -/
def lnkL : List Elm → List UInt8
  | [] => []
  | k :: r => match hrefD k with
    | some x => shortT x 512
    | none => lnkL r
def lnkD (e : Elm) : List UInt8 := lnkL (kidsD e sLnk)
theorem lnkL_some {l : List Elm} {k : Nat} {q : Elm} (hg : l[k]? = some q) {x : List UInt8} (h : hrefD q = some x) : lnkL (l.drop k) = shortT x 512 := by
  obtain ⟨hl, hv⟩ := List.getElem?_eq_some_iff.1 hg
  rw [List.drop_eq_getElem_cons hl, hv]
  simp only [lnkL, h]
theorem lnkL_none {l : List Elm} {k : Nat} {q : Elm} (hg : l[k]? = some q) (h : hrefD q = none) : lnkL (l.drop k) = lnkL (l.drop (k + 1)) := by
  obtain ⟨hl, hv⟩ := List.getElem?_eq_some_iff.1 hg
  rw [List.drop_eq_getElem_cons hl, hv]
  simp only [lnkL, h]
theorem attr_le {n : Nat} {q : Elm} (h : SmE (n + 1) q) {s x : List UInt8} (ha : attrE q s = some x) : x.length ≤ 6000 := by
  unfold attrE attrF at ha
  rw [Option.map_eq_some_iff] at ha
  obtain ⟨a, h1, rfl⟩ := ha
  exact (h.2.2.1 a (List.mem_of_find?_eq_some h1)).2
section
variable {w : World} {S : Nat → Prop}
theorem em_leafA (nm tx : List UInt8) (h1 : nm.length ≤ 1100000) (h2 : tx.length ≤ 1100000) : EmF w S (.mk nm [] tx []) none 0 none 0 := ⟨h1, h2, ⟨Nat.zero_le _, by omega⟩, ⟨Nat.zero_le _, by omega⟩, ⟨Nat.zero_le _, Nat.zero_le _⟩, by simp [Elm.ats], RwA.nil _, RwA.nil _⟩
theorem em_nodeA (l : List Elm) (g n : Nat) (hn : l.length = n) (hl : n ≤ 1100000) (h : EmA w S (some ⟨g, 0, none⟩) n l) : EmF w S (.mk [] [] [] l) none 0 (some ⟨g, 0, none⟩) n :=
  ⟨by simp [Elm.nm], by simp [Elm.tx], ⟨Nat.zero_le _, by omega⟩, ⟨by show l.length ≤ n; omega, by omega⟩, ⟨Nat.zero_le _, by show l.length ≤ _; omega⟩, by simp [Elm.ats], RwA.nil _, by show EmA w S _ l.length l; rw [hn]; exact h⟩
end
/-- a literal of several elements -/
theorem rwl_litA {α : Type} {sz : Nat} {P : World → (Nat → Prop) → Array Value → α → Prop} {W : World} {S : Nat → Prop} {e : TypeId} (hP : ElP sz P) (V : Nat → Array Value) (n : Nat) (cs : Array Value) (l : List α) (hcs : cs.toList = rowZ V n) (hl : l.length = n) (hq : ∀ (i : Nat) (x : α), l[i]? = some x → P W S (V i) x) {g : Nat} (hg : W.heap.size = g) (hS : S g) :
    RwA sz P (W.alloc (.cells cs e)) S (some ⟨g, 0, none⟩) n l := by
  subst hg
  have hs : ∀ i, i < n → (V i).size = sz := fun i hi => hP.size (hq i _ (List.getElem?_eq_getElem (show i < l.length by omega)))
  refine ⟨hl, V, fun _ => ⟨_, _, rfl, hS, by simp, fun i j u hi hu => ?_⟩, fun i q hi => hP.bel (hq i q hi) (bel_alloc (Below.refl _ _) _)⟩
  have hj : j < sz := by
    rcases Nat.lt_or_ge j sz with h | h
    · exact h
    · rw [Array.getElem?_eq_none (by rw [hs i hi]; exact h)] at hu; cases hu
  rw [show 0 + i * sz + j = i * sz + j by omega, (Blk.new W e cs).cell, ← Array.getElem?_toList, hcs, rowZ_get V n hs i j hi hj]
  exact hu
/-- the element of which a link's address is taken as a field -/
def hrE (x : List UInt8) : Elm := .mk [] [] [] [.mk sHref [] x []]
def hrV (x : List UInt8) : Array Value := #[.string ⟨#[104, 114, 101, 102]⟩, .slice none 0 0, .string ⟨x.toArray⟩, .slice none 0 0]
theorem hr_kid (x : List UInt8) : kidD (hrE x) sHref = .mk sHref [] x [] := by
  have h : shortD sHref = sHref := shortD_no (by decide)
  simp [kidD, kidsD, kidsL, hrE, Elm.kids, Elm.nm, h]
theorem hr_em (x : List UInt8) (W : World) (hx : x.length ≤ 1100000) : EmF (W.alloc (.cells (hrV x) 25)) (fun _ => True) (hrE x) none 0 (some ⟨W.heap.size, 0, none⟩) 1 := by
  refine em_nodeA _ _ 1 rfl (by omega) (rwl_litA emP (fun _ => hrV x) 1 (hrV x) _ (by simp [rowZ]) rfl (fun i y hi => ?_) rfl trivial)
  match i, hi with
  | 0, hi =>
    simp only [List.getElem?_cons_zero, Option.some.injEq] at hi
    subst hi
    exact em_make (em_leafA _ _ (by simp [sHref]) hx)
  | k + 1, hi => simp at hi
theorem hr_field (x : List UInt8) (W : World) (hx : x.length ≤ 6000) :
    Calls Try.prog 15 #[.agg #[.string ⟨#[]⟩, .slice none 0 0, .string ⟨#[]⟩, .slice (some ⟨W.heap.size, 0, none⟩) 1 1], .string ⟨#[104, 114, 101, 102]⟩, .int .i64 512] (W.alloc (.cells (hrV x) 25)) (RetS (W.alloc (.cells (hrV x) 25)) (shortT x 512)) := by
  have h := field10_any (hrE x) none (some ⟨W.heap.size, 0, none⟩) 0 1 sHref 512 (W.alloc (.cells (hrV x) 25)) _ (hr_em x W (by omega)) (by rw [hr_kid]; exact hx) (by omega) (by omega)
  unfold fieldD at h
  rw [hr_kid] at h
  exact h
set_option maxHeartbeats 8000000 in
theorem link11_any (e : Elm) (A B : Option Addr) (c d : Nat) (w : World) (S : Nat → Prop) (he : EmF w S e A c B d) (hsm : SmE 8 e) :
    Calls Try.prog 13 #[.agg (emV e A e.ats.length c B e.kids.length d)] w (RetS w (lnkD e)) := by
  have b1 := bel_alloc (Below.refl w.heap.size w) (.cells (emV e A e.ats.length c B e.kids.length d) 25)
  have HC := Lib.hid (kids9_any e A B c d sLnk _ _ (em_bel he b1))
  have HB := Lib.hid b1
  have HSK : Hid (∀ k ∈ kidsD e sLnk, SmE 7 k) := Lib.hid (fun k hk => hsm.2.2.2 k (List.mem_filter.1 hk).1)
  have HNK : Hid ((kidsD e sLnk).length ≤ 1100000) := Lib.hid (Nat.le_trans (kidsL_len _ _) he.hs.2)
  have HV : Hid (lnkD e = lnkL (kidsD e sLnk)) := Lib.hid rfl
  obtain ⟨hca, hcb⟩ := he.hc
  obtain ⟨hda, hdb⟩ := he.hd
  clear he hsm b1
  simp only [emV] at *
  generalize kidsD e sLnk = L at *
  generalize lnkD e = out at *
  simp only [sLnk] at HC
  go_enter Try.func13, Try.ntmps13
  go_wp2_with fail
  (with_reducible refine (HC.out).mono ?_)
  rintro _ we ⟨AK, nK, cK, rfl, hA, hnK, hcK, hbe⟩
  have HLN := Lib.hid hA.len
  have hnK1 : nK ≤ 1100000 := by have := HLN.out; have := HNK.out; omega
  have HA := Lib.hid hA
  have HBE := Lib.hid (bel_step HB.out hbe)
  clear hA hbe HC HB
  go_wp2_with fail
  go_loopw [12] (fun i wr => ∃ k : Nat, k ≤ nK ∧ i = .int .i64 k ∧ Hid (out = lnkL (L.drop k)) ∧ Hid (Below we.heap.size we wr)) (fun i _ => nK - (intOf i).toNat)
  case atStart => exact ⟨0, Nat.zero_le _, rfl, Lib.hid (by rw [HV.out]; simp), Lib.hid (Below.refl _ _)⟩
  case round =>
    obtain ⟨k, hkn, rfl, HF, HG⟩ := hrel
    by_cases hlt : k < nK
    · obtain ⟨q, A2, c2, B2, d2, b, off, HQ, rfl, hS, hbs, HP, HFq, f0, f1, f2, f3⟩ := em_at (HA.out.bel emP HG.out) hlt
      have hlt' : decide (k < nK) = true := by simpa using hlt
      have hki : (k : Int) < (nK : Int) := by omega
      have HQS : Hid (SmE 7 q) := Lib.hid (HSK.out q (List.mem_of_getElem? HQ.out))
      obtain ⟨hqc1, hqc2⟩ := HFq.out.hc
      obtain ⟨hqd1, hqd2⟩ := HFq.out.hd
      have hbq := bel_alloc (Below.refl wr.heap.size wr) (.cells (emV q A2 q.ats.length c2 B2 q.kids.length d2) 25)
      have HB1 := Lib.hid (HG.out.trans (hbq.mono HG.out.size))
      have FQ := Lib.hid (em_bel HFq.out hbq)
      have XQ := Lib.hid (Blk.new wr 25 (emV q A2 q.ats.length c2 B2 q.kids.length d2))
      have HC1 := Lib.hid (attr9_any q A2 B2 c2 d2 sRel _ _ FQ.out)
      have HC2 := Lib.hid (fun W (h : Below (wr.alloc (.cells (emV q A2 q.ats.length c2 B2 q.kids.length d2) 25)).heap.size (wr.alloc (.cells (emV q A2 q.ats.length c2 B2 q.kids.length d2) 25)) W) => attr9_any q A2 B2 c2 d2 sHref W _ (em_bel FQ.out h))
      have HD : Hid (hrefD q = match attrE q sHref with
        | none => none
        | some x => match attrE q sRel with
          | none => some x
          | some r => if r = sAlt then some x else none) := Lib.hid rfl
      have HLE : Hid (∀ x, attrE q sHref = some x → x.length ≤ 6000) := Lib.hid (fun x hx => attr_le HQS.out hx)
      have HYES : Hid (∀ x, hrefD q = some x → out = shortT x 512) := Lib.hid (fun x hx => by rw [HF.out, lnkL_some HQ.out hx])
      have HNO : Hid (hrefD q = none → out = lnkL (L.drop (k + 1))) := Lib.hid (fun hx => by rw [HF.out, lnkL_none HQ.out hx])
      clear hS HP HFq hbq HF HQ HQS HG
      generalize attrE q sRel = oR at *
      generalize attrE q sHref = oH at *
      generalize hrefD q = oD at *
      simp only [emV, sRel, sHref, attV] at HC1 HC2 HB1 FQ XQ
      obtain ⟨wq, hwq⟩ : ∃ wq, wq = wr.alloc (.cells #[.string ⟨q.nm.toArray⟩, .slice A2 q.ats.length c2, .string ⟨q.tx.toArray⟩, .slice B2 q.kids.length d2] 25) := ⟨_, rfl⟩
      have q0 := XQ.out.cell 0
      have q1 := XQ.out.cell 1
      have q2 := XQ.out.cell 2
      have q3 := XQ.out.cell 3
      simp at q0 q1 q2 q3
      go_wp2_with fail
      (with_reducible refine (HC1.out).mono ?_)
      rintro _ w1 ⟨rfl, hb1⟩
      have HC2 := Lib.hid (HC2.out w1 hb1)
      have HB2 := Lib.hid (HB1.out.trans (hb1.mono HB1.out.size))
      have XQ1 := Lib.hid (XQ.out.below hb1 XQ.out.lt)
      clear hb1 HC1 HB1 XQ hwq q0 q1 q2 q3
      have q0 := XQ1.out.cell 0
      have q1 := XQ1.out.cell 1
      have q2 := XQ1.out.cell 2
      have q3 := XQ1.out.cell 3
      simp at q0 q1 q2 q3
      go_wp2_with fail
      (with_reducible refine (HC2.out).mono ?_)
      rintro _ w2 ⟨rfl, hb2⟩
      have HB3 := Lib.hid (HB2.out.trans (hb2.mono HB2.out.size))
      clear hb2 HC2 HB2 XQ1 q0 q1 q2 q3 FQ
      cases oH with
      | none =>
        have HN := Lib.hid (HNO.out HD.out)
        simp only [Option.isSome_none, Option.getD_none]
        go_wp2_with fail
        go_roundw
        case rel => exact ⟨k + 1, by omega, by go_num, HN, HB3⟩
        case measure => simp [intOf] <;> omega
      | some x =>
        have hx6 := HLE.out x rfl
        have HH := Lib.hid (hr_field x w2 hx6)
        simp only [hrV] at HH
        simp only [Option.isSome_some, Option.getD_some]
        cases oR with
        | none =>
          have HO := Lib.hid (HYES.out x HD.out)
          simp only [Option.isSome_none, Option.getD_none]
          go_wp2_with fail
          (with_reducible refine (HH.out).mono ?_)
          rintro _ w3 ⟨rfl, hb3⟩
          go_wp2_with fail
          go_ret
          rw [HO.out]
          exact ⟨rfl, bel_step HBE.out (bel_step HB3.out (bel_step (bel_alloc (Below.refl _ _) _) hb3))⟩
        | some r =>
          simp only [Option.isSome_some, Option.getD_some]
          by_cases hr : r = sAlt
          · have HO := Lib.hid (HYES.out x (by rw [HD.out]; exact if_pos hr))
            have hr1 : (r == [97, 108, 116, 101, 114, 110, 97, 116, 101]) = true := by rw [hr]; rfl
            clear hr
            go_wp2_with fail
            (with_reducible refine (HH.out).mono ?_)
            rintro _ w3 ⟨rfl, hb3⟩
            go_wp2_with fail
            go_ret
            rw [HO.out]
            exact ⟨rfl, bel_step HBE.out (bel_step HB3.out (bel_step (bel_alloc (Below.refl _ _) _) hb3))⟩
          · have HN := Lib.hid (HNO.out (by rw [HD.out]; exact if_neg hr))
            have hr1 : (r == [97, 108, 116, 101, 114, 110, 97, 116, 101]) = false := by
              have := bs_eq r sAlt
              rw [decide_eq_false hr] at this
              exact this
            clear hr
            go_wp2_with fail
            go_roundw
            case rel => exact ⟨k + 1, by omega, by go_num, HN, HB3⟩
            case measure => simp [intOf] <;> omega
    · obtain rfl : k = nK := by omega
      have hlt' : decide (k < k) = false := by simp
      have HF2 : Hid (out = []) := Lib.hid (by rw [HF.out, List.drop_of_length_le (by rw [HLN.out]; exact Nat.le_refl _)]; rfl)
      clear HF
      go_wp2_with fail
      go_ret
      rw [HF2.out]
      exact ⟨rfl, bel_step HBE.out HG.out⟩
end Go.Proofs.Ytjmmgekildlckaa
end
section
namespace Go.Proofs.Ytjmmgekildlckaa
open Go.ChangeShapes Go.WideShapes Go.ChangeAt Go.Deep
open Go.RowKit Go.Nst
set_option maxRecDepth 100000
set_option linter.unusedVariables false
set_option linter.unusedSimpArgs false

/-- the date of a kid -/
def momW1 (e : Elm) (s : List UInt8) : Option Int := if hasD e s = true then webR (cleanT (kidD e s).tx) else none
/-- the first date of some kids -/
def momWL (e : Elm) : List (List UInt8) → Option Int
  | [] => none
  | s :: r => match momW1 e s with
    | some n => some n
    | none => momWL e r
def updD : List (List UInt8) := [[117, 112, 100, 97, 116, 101, 100], [112, 117, 98, 108, 105, 115, 104, 101, 100], [105, 115, 115, 117, 101, 100]]
def momA (e : Elm) : Option Int := momWL e updD
theorem momWL_some {e : Elm} {L : List (List UInt8)} {k : Nat} {x : List UInt8} (hg : L[k]? = some x) {n : Int} (h : momW1 e x = some n) : momWL e (L.drop k) = some n := by
  obtain ⟨hl, hv⟩ := List.getElem?_eq_some_iff.1 hg
  rw [List.drop_eq_getElem_cons hl, hv]
  simp only [momWL, h]
theorem momWL_none {e : Elm} {L : List (List UInt8)} {k : Nat} {x : List UInt8} (hg : L[k]? = some x) (h : momW1 e x = none) : momWL e (L.drop k) = momWL e (L.drop (k + 1)) := by
  obtain ⟨hl, hv⟩ := List.getElem?_eq_some_iff.1 hg
  rw [List.drop_eq_getElem_cons hl, hv]
  simp only [momWL, h]
set_option maxHeartbeats 2000000 in
theorem moment11_any (e : Elm) (A B : Option Addr) (c d : Nat) (s : List UInt8) (w : World) (S : Nat → Prop) (he : EmF w S e A c B d) (hs : (kidD e s).tx.length ≤ 6000) :
    Calls Try.prog 21 #[.agg (emV e A e.ats.length c B e.kids.length d), .string ⟨s.toArray⟩] w fun e' w' => e' = .returned (znV (momW1 e s)) ∧ Below w.heap.size w w' := by
  have B0 := Lib.hid (bel_alloc (Below.refl w.heap.size w) (.cells (emV e A e.ats.length c B e.kids.length d) 25))
  have HC := Lib.hid (kid9_any e A B c d s _ S (em_bel he B0.out))
  have hc1 := cleanT_len (kidD e s).tx
  have H1 := Lib.hid (fun W => clean_l (kidD e s).tx W (by omega))
  have H2 := Lib.hid (fun W => web_any (cleanT (kidD e s).tx) W (by omega))
  rw [web_same] at H2
  have HV : Hid (momW1 e s = if hasD e s = true then webR (cleanT (kidD e s).tx) else none) := Lib.hid rfl
  obtain ⟨hca, hcb⟩ := he.hc
  obtain ⟨hda, hdb⟩ := he.hd
  clear he hc1
  generalize webR (cleanT (kidD e s).tx) = o at *
  generalize cleanT (kidD e s).tx = t1 at *
  generalize kidD e s = k at *
  generalize hasD e s = hb at *
  generalize momW1 e s = out at *
  simp only [emV] at *
  cases hb with
  | false =>
    have hv := HV.out
    simp only [Bool.false_eq_true, if_false] at hv
    subst hv
    go_enter Try.func21, Try.ntmps21
    go_wp2_with fail
    (with_reducible refine (HC.out).mono ?_)
    rintro e' w1 ⟨A1, c1, B1, d1, rfl, hF, hb1⟩
    simp only [emV]
    have B1' := Lib.hid (bel_step B0.out hb1)
    clear hF hb1 HC B0
    go_wp2_with fail
    go_ret2
    exact ⟨rfl, bel_alloc B1'.out _⟩
  | true =>
    have hv := HV.out
    simp only [if_true] at hv
    subst hv
    go_enter Try.func21, Try.ntmps21
    go_wp2_with fail
    (with_reducible refine (HC.out).mono ?_)
    rintro e' w1 ⟨A1, c1, B1, d1, rfl, hF, hb1⟩
    simp only [emV]
    have B1' := Lib.hid (bel_step B0.out hb1)
    clear hF hb1 HC B0
    go_wp2_with fail
    (with_reducible refine (H1.out _).mono ?_)
    rintro e' w2 ⟨rfl, hb2⟩
    have B2' := Lib.hid (bel_step (bel_alloc B1'.out _) hb2)
    clear hb2 B1'
    go_wp2_with fail
    (with_reducible refine (H2.out _).mono ?_)
    rintro e' w3 ⟨rfl, hb3⟩
    simp only [tOut]
    cases out with
    | none =>
      simp only [Option.getD_none, Option.isSome_none, Bool.false_eq_true, if_false]
      go_wp2_with fail
      go_ret2
      exact ⟨rfl, bel_step B2'.out hb3⟩
    | some n =>
      simp only [Option.getD_some, Option.isSome_some, if_true]
      go_wp2_with fail
      go_ret2
      exact ⟨rfl, bel_step B2'.out hb3⟩
set_option maxHeartbeats 2000000 in
theorem moment11W_any (e : Elm) (A B : Option Addr) (c d : Nat) (w : World) (S : Nat → Prop) (he : EmF w S e A c B d) (hsm : SmE 8 e) :
    Calls Try.prog 12 #[.agg (emV e A e.ats.length c B e.kids.length d)] w fun e' w' => e' = .returned (znV (momA e)) ∧ Below w.heap.size w w' := by
  obtain ⟨bx, hbx⟩ : ∃ bx : Array Value, bx = emV e A e.ats.length c B e.kids.length d := ⟨_, rfl⟩
  have HBX := Lib.hid hbx
  obtain ⟨cs, hcs⟩ : ∃ cs : Array Value, cs = #[.string ⟨#[117, 112, 100, 97, 116, 101, 100]⟩, .string ⟨#[112, 117, 98, 108, 105, 115, 104, 101, 100]⟩, .string ⟨#[105, 115, 115, 117, 101, 100]⟩] := ⟨_, rfl⟩
  have HCS := Lib.hid hcs
  have b1 := bel_alloc (Below.refl w.heap.size w) (.cells bx 25)
  have hb3 := bel_alloc (Below.refl (w.alloc (.cells bx 25)).heap.size (w.alloc (.cells bx 25))) (.cells cs 9)
  have B0 := Lib.hid (bel_step b1 hb3)
  have X0 := Lib.hid ((Blk.new w 25 bx).below hb3 (Blk.new w 25 bx).lt)
  have HL := Lib.hid (Ss.const (w.alloc (.cells bx 25)) updD cs 9 (0, 0) 3 rfl (by rw [hcs]; simp [sv, updD]))
  have HC := Lib.hid (fun W s (h : Below w.heap.size w W) => moment11_any e A B c d s W S (em_bel he h) (kid_tx hsm s))
  have HV : Hid (momA e = momWL e updD) := Lib.hid rfl
  have HLN := Lib.hid (show updD.length = 3 from rfl)
  obtain ⟨hca, hcb⟩ := he.hc
  obtain ⟨hda, hdb⟩ := he.hd
  rw [← hbx] at HC
  rw [← hbx]
  clear hbx he hsm b1 hb3 hcs
  rw [show (w.alloc (.cells bx 25)).heap.size = w.heap.size + 1 by simp] at HL
  rw [HBX.out]
  rw [HBX.out] at HC
  generalize updD = L at *
  generalize momA e = out at *
  simp only [emV] at HC HBX ⊢
  go_enter Try.func12, Try.ntmps12
  go_wp2_with fail
  go_loopw [10] (fun i wr => ∃ k : Nat, k ≤ 3 ∧ i = .int .i64 k ∧ Hid (out = momWL e (L.drop k)) ∧ Hid (Below (w.heap.size + 2) ((w.alloc (.cells bx 25)).alloc (.cells cs 9)) wr)) (fun i _ => 3 - (intOf i).toNat)
  case atStart => exact ⟨0, Nat.zero_le _, rfl, Lib.hid (by rw [HV.out]; simp), Lib.hid (by rw [HBX.out, HCS.out]; exact Below.refl _ _)⟩
  case round =>
    obtain ⟨k, hkn, rfl, HF, HB⟩ := hrel
    have hbw : Below w.heap.size w wr := B0.out.trans (HB.out.mono (by omega))
    have X1 := X0.out.below HB.out (by omega)
    have x0 := X1.cell 0
    have x1 := X1.cell 1
    have x2 := X1.cell 2
    have x3 := X1.cell 3
    rw [HBX.out] at x0 x1 x2 x3
    simp at x0 x1 x2 x3
    have HBW := Lib.hid hbw
    clear X1 hbw
    by_cases hlt : k < 3
    · obtain ⟨x, b, off, hbo, HG, hbs, f0⟩ := (HL.out.below (HB.out.mono (by simp))).at hlt
      obtain ⟨rfl, rfl⟩ : w.heap.size + 1 = b ∧ 0 = off := by injection hbo with h; injection h with h1 h2; exact ⟨h1, h2⟩
      have hlt' : decide (k < 3) = true := by simpa using hlt
      have hki : (k : Int) < 3 := by omega
      simp only [Nat.zero_add] at f0
      have HCx := Lib.hid (HC.out wr x HBW.out)
      have HZ : Hid (∀ w2, Below wr.heap.size wr w2 → Below (w.heap.size + 2) ((w.alloc (.cells bx 25)).alloc (.cells cs 9)) w2) := Lib.hid (fun w2 h2 => HB.out.trans (h2.mono (by have := HB.out.size; simpa using this)))
      clear HC hbo
      cases hm : momW1 e x with
      | none =>
        rw [hm] at HCx
        have HF2 : Hid (out = momWL e (L.drop (k + 1))) := Lib.hid (by rw [HF.out, momWL_none HG.out hm])
        simp only [znV, Option.getD_none, Option.isSome_none] at HCx
        clear HF hm
        go_wp2_with fail
        (with_reducible refine (HCx.out).mono ?_)
        rintro e' w2 ⟨rfl, hb2⟩
        go_wp2_with fail
        go_roundw
        case rel => exact ⟨k + 1, by omega, by go_num, HF2, Lib.hid (HZ.out _ hb2)⟩
        case measure => simp [intOf] <;> omega
      | some v =>
        rw [hm] at HCx
        have HF2 : Hid (out = some v) := Lib.hid (by rw [HF.out, momWL_some HG.out hm])
        simp only [znV, Option.getD_some, Option.isSome_some] at HCx
        clear HF hm
        go_wp2_with fail
        (with_reducible refine (HCx.out).mono ?_)
        rintro e' w2 ⟨rfl, hb2⟩
        go_wp2_with fail
        go_ret2
        exact ⟨by rw [HF2.out]; rfl, bel_step HBW.out hb2⟩
    · obtain rfl : k = 3 := by omega
      have HF2 : Hid (out = none) := Lib.hid (by rw [HF.out, List.drop_of_length_le (by rw [HLN.out]; exact Nat.le_refl _)]; rfl)
      clear HF
      go_wp2_with fail
      go_ret2
      exact ⟨by rw [HF2.out]; rfl, HBW.out⟩
end Go.Proofs.Ytjmmgekildlckaa
end
section
namespace Go.Proofs.Ytjmmgekildlckaa
open Go.ChangeShapes Go.WideShapes Go.ChangeAt Go.Deep
open Go.RowKit Go.Nst
set_option maxRecDepth 100000
set_option linter.unusedVariables false
set_option linter.unusedSimpArgs false

def sIdA : List UInt8 := [105, 100]
def sTitA : List UInt8 := [116, 105, 116, 108, 101]
/-- what an entry is told apart by -/
def guidA (e : Elm) : List UInt8 := firstNe [fieldD e sIdA 512, lnkD e, fieldD e sTitA 256]
def entA (e : Elm) : Option Ent := if guidA e = [] then none else some ⟨guidA e, fieldD e sTitA 256, lnkD e, (momA e).getD 0, (momA e).isSome⟩
set_option maxHeartbeats 8000000 in
theorem Entry11_any (e : Elm) (A B : Option Addr) (c d : Nat) (w : World) (S : Nat → Prop) (he : EmF w S e A c B d) (hsm : SmE 8 e) :
    Calls Try.prog 11 #[.agg (emV e A e.ats.length c B e.kids.length d)] w (RetEn w (entA e)) := by
  obtain ⟨bx, hbx⟩ : ∃ bx : Array Value, bx = emV e A e.ats.length c B e.kids.length d := ⟨_, rfl⟩
  have b1 := bel_alloc (Below.refl w.heap.size w) (.cells bx 25)
  have b2 := bel_alloc b1 (.cells #[.string ⟨#[]⟩, .string ⟨#[]⟩, .string ⟨#[]⟩, .int .i64 0, .bool false] 41)
  have k1 := Blk.new w 25 bx
  have k1 := k1.alloc (.cells #[.string ⟨#[]⟩, .string ⟨#[]⟩, .string ⟨#[]⟩, .int .i64 0, .bool false] 41)
  have k2 := Blk.new (w.alloc (.cells bx 25)) 41 #[.string ⟨#[]⟩, .string ⟨#[]⟩, .string ⟨#[]⟩, .int .i64 0, .bool false]
  rw [show (w.alloc (.cells bx 25)).heap.size = w.heap.size + 1 by simp] at k2
  have hz : ((w.alloc (.cells bx 25)).alloc (.cells #[.string ⟨#[]⟩, .string ⟨#[]⟩, .string ⟨#[]⟩, .int .i64 0, .bool false] 41)).heap.size = w.heap.size + 2 := by simp
  have HF := Lib.hid (fun W s (n : Int) (h0 : -9223372036854775808 ≤ n) (h1 : n ≤ 9223372036854775807) (h : Below w.heap.size w W) => field10_any e A B c d s n W S (em_bel he h) (kid_tx hsm s) h0 h1)
  have HBX : Hid (bx = emV e A e.ats.length c B e.kids.length d) := Lib.hid hbx
  have HV : Hid (guidA e = firstNe [fieldD e sIdA 512, lnkD e, fieldD e sTitA 256] ∧ entA e = if guidA e = [] then none else some ⟨guidA e, fieldD e sTitA 256, lnkD e, (momA e).getD 0, (momA e).isSome⟩) := Lib.hid ⟨rfl, rfl⟩
  have HG := Lib.hid (fun W h => HF.out W sIdA 512 (by omega) (by omega) h)
  have HT := Lib.hid (fun W h => HF.out W sTitA 256 (by omega) (by omega) h)
  have HK := Lib.hid (fun W (h : Below w.heap.size w W) => link11_any e A B c d W S (em_bel he h) hsm)
  have HP := Lib.hid (fun W (h : Below w.heap.size w W) => moment11W_any e A B c d W S (em_bel he h) hsm)
  obtain ⟨hca, hcb⟩ := he.hc
  obtain ⟨hda, hdb⟩ := he.hd
  rw [← hbx] at HG HT HK HP
  rw [← hbx]
  clear he hsm HF b1
  generalize fieldD e sIdA 512 = gu at *
  generalize fieldD e sTitA 256 = ti at *
  generalize lnkD e = li at *
  generalize momA e = mo at *
  generalize guidA e = gg at *
  generalize entA e = out at *
  have B2 := Lib.hid b2
  have X := Lib.hid k1
  have K2 := Lib.hid k2
  have HZ := Lib.hid hz
  clear b2 k1 k2 hz
  rw [HBX.out] at HG HT HK HP B2 X K2 HZ
  rw [hbx]
  clear hbx HBX
  simp only [emV, sIdA, sTitA] at *
  go_enter Try.func11, Try.ntmps11
  go_upto_region 1 with fail
  generalize (w.alloc (.cells #[.string ⟨e.nm.toArray⟩, .slice A e.ats.length c, .string ⟨e.tx.toArray⟩, .slice B e.kids.length d] 25)).alloc (.cells #[.string ⟨#[]⟩, .string ⟨#[]⟩, .string ⟨#[]⟩, .int .i64 0, .bool false] 41) = ws at *
  go_cut [4] (fun s4 wx => ∃ gx, s4 = .pointer (some ⟨gx, 0, none⟩) ∧ ws.heap.size ≤ gx ∧ Blk wx gx 41 #[.string ⟨#[]⟩, .string ⟨ti.toArray⟩, .string ⟨li.toArray⟩, .int .i64 0, .bool false] ∧ Below ws.heap.size ws wx)
  case first =>
    refine wp_region_ord ws.heap.size (by kernel_rfl) (.take 0 (.take 2 (.two 1 (.two 3 (.take 4 (.exec 5 (.exec 6 (.nil)))) 5 (.exec 3 (.take 4 (.exec 6 (.nil))))) 5 (.exec 1 (.exec 3 (.take 4 (.exec 6 (.nil)))))))) (by kernel_rfl) (by kernel_rfl) (by kernel_rfl) ?_
    intro w0 hb0 hz0
    have BQ0 := Lib.hid hb0
    have y0 := fun W (hW : Below ws.heap.size w0 W) => (show W.cell? ⟨w.heap.size, 0, none⟩ = some (.string ⟨e.nm.toArray⟩) from ((X.out.below (hb0.trans hW) X.out.lt).cell 0).trans rfl)
    have y1 := fun W (hW : Below ws.heap.size w0 W) => (show W.cell? ⟨w.heap.size, 1, none⟩ = some (.slice A e.ats.length c) from ((X.out.below (hb0.trans hW) X.out.lt).cell 1).trans rfl)
    have y2 := fun W (hW : Below ws.heap.size w0 W) => (show W.cell? ⟨w.heap.size, 2, none⟩ = some (.string ⟨e.tx.toArray⟩) from ((X.out.below (hb0.trans hW) X.out.lt).cell 2).trans rfl)
    have y3 := fun W (hW : Below ws.heap.size w0 W) => (show W.cell? ⟨w.heap.size, 3, none⟩ = some (.slice B e.kids.length d) from ((X.out.below (hb0.trans hW) X.out.lt).cell 3).trans rfl)
    iterate 2 (refine wpOrd_take (o := ⟨_, _, _, _, _, _⟩) (v := ?_) rfl rfl ?_ ?_; rotate_left; (focus (intro W hW; go_simp; first | done | with_reducible rfl)); simp only [Act.put, List.setIfInBounds_toArray, List.set_cons_zero, List.set_cons_succ])
    clear hb0 hz0
    clear y0 y1 y2 y3
    refine wpOrd_two ?_ ?_
    · have CN := Lib.hid (HT.out w0 (B2.out.trans (BQ0.out.mono B2.out.size)))
      refine wpOrd_exec (o := ⟨_, _, _, _, _, _⟩) rfl rfl (fun K hK => ?_)
      go_simp
      (with_reducible refine (CN.out).mono ?_)
      rintro _ wo1 ⟨rfl, bo2⟩
      go_wp2_with fail
      refine hK _ _ (bo2.mono BQ0.out.size) ?_
      clear hK K CN
      have BQx3 := Lib.hid (BQ0.out.trans (bo2.mono BQ0.out.size))
      clear bo2
      refine wpOrd_two ?_ ?_
      · have CN := Lib.hid (HK.out wo1 (B2.out.trans (BQx3.out.mono B2.out.size)))
        refine wpOrd_exec (o := ⟨_, _, _, _, _, _⟩) rfl rfl (fun K hK => ?_)
        go_simp
        (with_reducible refine (CN.out).mono ?_)
        rintro _ wo4 ⟨rfl, bo5⟩
        go_wp2_with fail
        refine hK _ _ (bo5.mono BQx3.out.size) ?_
        clear hK K CN
        have BQx6 := Lib.hid (BQx3.out.trans (bo5.mono BQx3.out.size))
        clear bo5
        iterate 1 (refine wpOrd_take (o := ⟨_, _, _, _, _, _⟩) (v := ?_) rfl rfl ?_ ?_; rotate_left; (focus (intro W hW; go_simp; first | done | with_reducible rfl)); simp only [Act.put, List.setIfInBounds_toArray, List.set_cons_zero, List.set_cons_succ])
        refine wpOrd_exec (o := ⟨_, _, _, _, _, _⟩) rfl rfl (fun K hK => ?_)
        go_simp
        refine hK _ _ ((Below.refl _ _).alloc BQx6.out.size _) ?_
        clear hK K
        have hD := Blk.new wo4 41 #[.string ⟨#[]⟩, .string ⟨#[]⟩, .string ⟨#[]⟩, .int .i64 0, .bool false]
        have BQx7 := Lib.hid (BQx6.out.trans ((bel_alloc (Below.refl wo4.heap.size wo4) (.cells #[.string ⟨#[]⟩, .string ⟨#[]⟩, .string ⟨#[]⟩, .int .i64 0, .bool false] 41)).mono BQx6.out.size))
        obtain ⟨gd, hgd⟩ : ∃ gd, gd = wo4.heap.size := ⟨_, rfl⟩
        have hgB : ws.heap.size ≤ gd := by rw [hgd]; exact BQx6.out.size
        rw [← hgd] at hD
        try simp only [← hgd]
        generalize wo4.alloc (.cells #[.string ⟨#[]⟩, .string ⟨#[]⟩, .string ⟨#[]⟩, .int .i64 0, .bool false] 41) = wo8 at *
        clear hgd
        have HD := Lib.hid hD
        clear hD
        have d0 := HD.out.cell 0
        have d1 := HD.out.cell 1
        have d2 := HD.out.cell 2
        have d3 := HD.out.cell 3
        have d4 := HD.out.cell 4
        simp at d0 d1 d2 d3 d4
        have hfz := HD.out.frozen
        refine wpOrd_exec (o := ⟨_, _, _, _, _, _⟩) rfl rfl (fun K hK => ?_)
        go_simp
        refine hK _ _ (bel5c (Below.refl _ _) hgB _ _ _ _ _) ?_
        clear hK K d0 d1 d2 d3 d4
        refine wpOrd_nil ?_
        have hE := set5c HD.out rfl (.string ⟨#[]⟩) (.string ⟨ti.toArray⟩) (.string ⟨li.toArray⟩) (.int .i64 0) (.bool false)
        have hBE := bel5c (n := ws.heap.size) BQx7.out hgB (.string ⟨#[]⟩) (.string ⟨ti.toArray⟩) (.string ⟨li.toArray⟩) (.int .i64 0) (.bool false)
        go_wp2_with fail
        go_meet
        exact ⟨gd, rfl, hgB, hE, hBE⟩
      · refine wpOrd_exec (o := ⟨_, _, _, _, _, _⟩) rfl rfl (fun K hK => ?_)
        go_simp
        refine hK _ _ ((Below.refl _ _).alloc BQx3.out.size _) ?_
        clear hK K
        have hD := Blk.new wo1 41 #[.string ⟨#[]⟩, .string ⟨#[]⟩, .string ⟨#[]⟩, .int .i64 0, .bool false]
        have BQx9 := Lib.hid (BQx3.out.trans ((bel_alloc (Below.refl wo1.heap.size wo1) (.cells #[.string ⟨#[]⟩, .string ⟨#[]⟩, .string ⟨#[]⟩, .int .i64 0, .bool false] 41)).mono BQx3.out.size))
        obtain ⟨gd, hgd⟩ : ∃ gd, gd = wo1.heap.size := ⟨_, rfl⟩
        have hgB : ws.heap.size ≤ gd := by rw [hgd]; exact BQx3.out.size
        rw [← hgd] at hD
        try simp only [← hgd]
        generalize wo1.alloc (.cells #[.string ⟨#[]⟩, .string ⟨#[]⟩, .string ⟨#[]⟩, .int .i64 0, .bool false] 41) = wo10 at *
        clear hgd
        have HD := Lib.hid hD
        clear hD
        have CN := Lib.hid (HK.out wo10 (B2.out.trans (BQx9.out.mono B2.out.size)))
        refine wpOrd_exec (o := ⟨_, _, _, _, _, _⟩) rfl rfl (fun K hK => ?_)
        go_simp
        (with_reducible refine (CN.out).mono ?_)
        rintro _ wo11 ⟨rfl, bo12⟩
        go_wp2_with fail
        refine hK _ _ (bo12.mono BQx9.out.size) ?_
        clear hK K CN
        have BQx13 := Lib.hid (BQx9.out.trans (bo12.mono BQx9.out.size))
        have HD := Lib.hid (HD.out.below bo12 HD.out.lt)
        clear bo12
        iterate 1 (refine wpOrd_take (o := ⟨_, _, _, _, _, _⟩) (v := ?_) rfl rfl ?_ ?_; rotate_left; (focus (intro W hW; go_simp; first | done | with_reducible rfl)); simp only [Act.put, List.setIfInBounds_toArray, List.set_cons_zero, List.set_cons_succ])
        have d0 := HD.out.cell 0
        have d1 := HD.out.cell 1
        have d2 := HD.out.cell 2
        have d3 := HD.out.cell 3
        have d4 := HD.out.cell 4
        simp at d0 d1 d2 d3 d4
        have hfz := HD.out.frozen
        refine wpOrd_exec (o := ⟨_, _, _, _, _, _⟩) rfl rfl (fun K hK => ?_)
        go_simp
        refine hK _ _ (bel5c (Below.refl _ _) hgB _ _ _ _ _) ?_
        clear hK K d0 d1 d2 d3 d4
        refine wpOrd_nil ?_
        have hE := set5c HD.out rfl (.string ⟨#[]⟩) (.string ⟨ti.toArray⟩) (.string ⟨li.toArray⟩) (.int .i64 0) (.bool false)
        have hBE := bel5c (n := ws.heap.size) BQx13.out hgB (.string ⟨#[]⟩) (.string ⟨ti.toArray⟩) (.string ⟨li.toArray⟩) (.int .i64 0) (.bool false)
        go_wp2_with fail
        go_meet
        exact ⟨gd, rfl, hgB, hE, hBE⟩
    · refine wpOrd_exec (o := ⟨_, _, _, _, _, _⟩) rfl rfl (fun K hK => ?_)
      go_simp
      refine hK _ _ ((Below.refl _ _).alloc BQ0.out.size _) ?_
      clear hK K
      have hD := Blk.new w0 41 #[.string ⟨#[]⟩, .string ⟨#[]⟩, .string ⟨#[]⟩, .int .i64 0, .bool false]
      have BQx14 := Lib.hid (BQ0.out.trans ((bel_alloc (Below.refl w0.heap.size w0) (.cells #[.string ⟨#[]⟩, .string ⟨#[]⟩, .string ⟨#[]⟩, .int .i64 0, .bool false] 41)).mono BQ0.out.size))
      obtain ⟨gd, hgd⟩ : ∃ gd, gd = w0.heap.size := ⟨_, rfl⟩
      have hgB : ws.heap.size ≤ gd := by rw [hgd]; exact BQ0.out.size
      rw [← hgd] at hD
      try simp only [← hgd]
      generalize w0.alloc (.cells #[.string ⟨#[]⟩, .string ⟨#[]⟩, .string ⟨#[]⟩, .int .i64 0, .bool false] 41) = wo15 at *
      clear hgd
      have HD := Lib.hid hD
      clear hD
      have CN := Lib.hid (HT.out wo15 (B2.out.trans (BQx14.out.mono B2.out.size)))
      refine wpOrd_exec (o := ⟨_, _, _, _, _, _⟩) rfl rfl (fun K hK => ?_)
      go_simp
      (with_reducible refine (CN.out).mono ?_)
      rintro _ wo16 ⟨rfl, bo17⟩
      go_wp2_with fail
      refine hK _ _ (bo17.mono BQx14.out.size) ?_
      clear hK K CN
      have BQx18 := Lib.hid (BQx14.out.trans (bo17.mono BQx14.out.size))
      have HD := Lib.hid (HD.out.below bo17 HD.out.lt)
      clear bo17
      have CN := Lib.hid (HK.out wo16 (B2.out.trans (BQx18.out.mono B2.out.size)))
      refine wpOrd_exec (o := ⟨_, _, _, _, _, _⟩) rfl rfl (fun K hK => ?_)
      go_simp
      (with_reducible refine (CN.out).mono ?_)
      rintro _ wo19 ⟨rfl, bo20⟩
      go_wp2_with fail
      refine hK _ _ (bo20.mono BQx18.out.size) ?_
      clear hK K CN
      have BQx21 := Lib.hid (BQx18.out.trans (bo20.mono BQx18.out.size))
      have HD := Lib.hid (HD.out.below bo20 HD.out.lt)
      clear bo20
      iterate 1 (refine wpOrd_take (o := ⟨_, _, _, _, _, _⟩) (v := ?_) rfl rfl ?_ ?_; rotate_left; (focus (intro W hW; go_simp; first | done | with_reducible rfl)); simp only [Act.put, List.setIfInBounds_toArray, List.set_cons_zero, List.set_cons_succ])
      have d0 := HD.out.cell 0
      have d1 := HD.out.cell 1
      have d2 := HD.out.cell 2
      have d3 := HD.out.cell 3
      have d4 := HD.out.cell 4
      simp at d0 d1 d2 d3 d4
      have hfz := HD.out.frozen
      refine wpOrd_exec (o := ⟨_, _, _, _, _, _⟩) rfl rfl (fun K hK => ?_)
      go_simp
      refine hK _ _ (bel5c (Below.refl _ _) hgB _ _ _ _ _) ?_
      clear hK K d0 d1 d2 d3 d4
      refine wpOrd_nil ?_
      have hE := set5c HD.out rfl (.string ⟨#[]⟩) (.string ⟨ti.toArray⟩) (.string ⟨li.toArray⟩) (.int .i64 0) (.bool false)
      have hBE := bel5c (n := ws.heap.size) BQx21.out hgB (.string ⟨#[]⟩) (.string ⟨ti.toArray⟩) (.string ⟨li.toArray⟩) (.int .i64 0) (.bool false)
      go_wp2_with fail
      go_meet
      exact ⟨gd, rfl, hgB, hE, hBE⟩
  case rest =>
  obtain ⟨gx, rfl, hgx, hX, hB3⟩ := hcut
  have HX := Lib.hid hX
  have HB3 := Lib.hid hB3
  have hxlt := hX.lt
  clear hX hB3
  go_upto_region 2 with fail
  go_cut [] (fun wx => Blk wx gx 41 #[.string ⟨gg.toArray⟩, .string ⟨ti.toArray⟩, .string ⟨li.toArray⟩, .int .i64 0, .bool false] ∧ Below ws.heap.size ws wx)
  case first =>
    refine wp_region_ordR (OnE gx ws.heap.size) (OnE.refl gx ws.heap.size) (OnE.trans) (by kernel_rfl) (.take 0 (.take 2 (.take 3 (.take 4 (.take 5 (.exec 1 (.exec 6 (.exec 7 (.take 8 (.exec 9 (.nil))))))))))) (by kernel_rfl) (by kernel_rfl) (by kernel_rfl) ?_
    obtain ⟨w0, hw0⟩ : ∃ w0, w0 = wc.drew := ⟨_, rfl⟩
    have BQ : Below ws.heap.size ws w0 := by rw [hw0]; exact HB3.out.drew
    have HX0 : Blk w0 gx 41 #[.string ⟨#[]⟩, .string ⟨ti.toArray⟩, .string ⟨li.toArray⟩, .int .i64 0, .bool false] := by rw [hw0]; exact HX.out.drew
    rw [← hw0]
    clear hw0
    have y0 := fun W (hW : OnE gx ws.heap.size w0 W) => (show W.cell? ⟨w.heap.size, 0, none⟩ = some (.string ⟨e.nm.toArray⟩) from ((X.out.below (BQ.trans hW.1) X.out.lt).cell 0).trans rfl)
    have y1 := fun W (hW : OnE gx ws.heap.size w0 W) => (show W.cell? ⟨w.heap.size, 1, none⟩ = some (.slice A e.ats.length c) from ((X.out.below (BQ.trans hW.1) X.out.lt).cell 1).trans rfl)
    have y2 := fun W (hW : OnE gx ws.heap.size w0 W) => (show W.cell? ⟨w.heap.size, 2, none⟩ = some (.string ⟨e.tx.toArray⟩) from ((X.out.below (BQ.trans hW.1) X.out.lt).cell 2).trans rfl)
    have y3 := fun W (hW : OnE gx ws.heap.size w0 W) => (show W.cell? ⟨w.heap.size, 3, none⟩ = some (.slice B e.kids.length d) from ((X.out.below (BQ.trans hW.1) X.out.lt).cell 3).trans rfl)
    have y4 := fun W (hW : OnE gx ws.heap.size w0 W) => (show W.cell? ⟨gx, 2, none⟩ = some (.string ⟨li.toArray⟩) from (hW.2 2 (by omega)).trans ((HX0.cell 2).trans rfl))
    have y5 := fun W (hW : OnE gx ws.heap.size w0 W) => (show W.cell? ⟨gx, 1, none⟩ = some (.string ⟨ti.toArray⟩) from (hW.2 1 (by omega)).trans ((HX0.cell 1).trans rfl))
    iterate 5 (refine wpOrd_take (o := ⟨_, _, _, _, _, _⟩) (v := ?_) rfl rfl ?_ ?_; rotate_left; (focus (intro W hW; go_simp; first | done | with_reducible rfl)); simp only [Act.put, List.setIfInBounds_toArray, List.set_cons_zero, List.set_cons_succ])
    clear y0 y1 y2 y3 y4 y5
    have BQ0 := Lib.hid BQ
    have HX1 := Lib.hid HX0
    clear BQ HX0
    have CN := Lib.hid (HG.out w0 (B2.out.trans (BQ0.out.mono B2.out.size)))
    refine wpOrd_exec (o := ⟨_, _, _, _, _, _⟩) rfl rfl (fun K hK => ?_)
    go_simp
    (with_reducible refine (CN.out).mono ?_)
    rintro _ wa ⟨rfl, hba⟩
    go_wp2_with fail
    refine hK _ _ (OnE.of hba HX1.out.lt BQ0.out.size) ?_
    clear hK K CN
    have BQ1 := Lib.hid (BQ0.out.trans (hba.mono BQ0.out.size))
    have HX2 := Lib.hid (HX1.out.below hba HX1.out.lt)
    clear hba HX1 BQ0
    refine wpOrd_exec (o := ⟨_, _, _, _, _, _⟩) rfl rfl (fun K hK => ?_)
    go_simp
    have hs3 := Ss.const wa [gu, li, ti] #[.string ⟨gu.toArray⟩, .string ⟨li.toArray⟩, .string ⟨ti.toArray⟩] 9 (0, 0) 3 rfl (by simp [sv])
    have hb3 := bel_alloc (Below.refl wa.heap.size wa) (.cells #[.string ⟨gu.toArray⟩, .string ⟨li.toArray⟩, .string ⟨ti.toArray⟩] 9)
    refine hK _ _ (OnE.of hb3 HX2.out.lt BQ1.out.size) ?_
    clear hK K
    have BQ2 := Lib.hid (BQ1.out.trans (hb3.mono BQ1.out.size))
    have HX3 := Lib.hid (HX2.out.below hb3 HX2.out.lt)
    have CN := Lib.hid (orS_any _ 3 3 _ _ hs3 (by omega))
    clear hs3 hb3 HX2 BQ1
    refine wpOrd_exec (o := ⟨_, _, _, _, _, _⟩) rfl rfl (fun K hK => ?_)
    go_simp
    (with_reducible refine (CN.out).mono ?_)
    rintro _ wb ⟨rfl, rfl⟩
    go_wp2_with fail
    refine hK _ _ (OnE.refl _ _ _) ?_
    clear hK K CN
    iterate 1 (refine wpOrd_take (o := ⟨_, _, _, _, _, _⟩) (v := ?_) rfl rfl ?_ ?_; rotate_left; (focus (intro W hW; go_simp; first | done | with_reducible rfl)); simp only [Act.put, List.setIfInBounds_toArray, List.set_cons_zero, List.set_cons_succ])
    have d0 := HX3.out.cell 0
    have hfz := HX3.out.frozen
    simp at d0
    refine wpOrd_exec (o := ⟨_, _, _, _, _, _⟩) rfl rfl (fun K hK => ?_)
    go_simp
    refine hK _ _ (OnE.set HX3.out hgx _) ?_
    clear hK K d0 hfz
    refine wpOrd_nil ?_
    have hE := HX3.out.set_ 0 (.string ⟨(firstNe [gu, li, ti]).toArray⟩)
    have hBE := BQ2.out.setCell (p := ⟨gx, 0, none⟩) hgx (.string ⟨(firstNe [gu, li, ti]).toArray⟩)
    go_wp2_with fail
    go_meet
    rw [HV.out.1]
    exact ⟨by simpa using hE, hBE⟩
  case rest =>
  obtain ⟨hX, hB4⟩ := hcut
  have HX4 := Lib.hid hX
  have HB4 := Lib.hid hB4
  have BW := Lib.hid (B2.out.trans (hB4.mono B2.out.size))
  have K4 := Lib.hid (K2.out.below hB4 K2.out.lt)
  have hgk : gx ≠ w.heap.size + 1 := by have := HZ.out; omega
  have hsz : ws.heap.size = w.heap.size + 2 := HZ.out
  clear HX HB3 hX hB4 hxlt
  have d0 := HX4.out.cell 0
  simp at d0
  by_cases hgg : gg = []
  · have HOUT : Hid (out = none) := Lib.hid (by rw [HV.out.2, if_pos hgg])
    subst hgg
    have zf := K4.out.frozen
    have z0 := K4.out.cell 0
    have z1 := K4.out.cell 1
    have z2 := K4.out.cell 2
    have z3 := K4.out.cell 3
    have z4 := K4.out.cell 4
    simp at z0 z1 z2 z3 z4
    go_wp2_with fail
    have y := set5c K4.out rfl (.string ⟨#[]⟩) (.string ⟨#[]⟩) (.string ⟨#[]⟩) (.int .i64 0) (.bool false)
    have y0 := y.cell 0
    have y1 := y.cell 1
    have y2 := y.cell 2
    have y3 := y.cell 3
    have y4 := y.cell 4
    simp at y0 y1 y2 y3 y4
    exact bodyPost_ret (v := enT none) (by simp [results, Try.results11, go_sem, enT, enV, zeroEnt, y0, y1, y2, y3, y4]) rfl
      (show RetEn w out _ _ from by rw [HOUT.out]; exact ⟨rfl, bel5c BW.out (by omega) _ _ _ _ _⟩)
  · obtain ⟨hx1, hx2⟩ := ne_b hgg
    have hout : out = some ⟨gg, ti, li, mo.getD 0, mo.isSome⟩ := by rw [HV.out.2, if_neg hgg]
    have HOUT := Lib.hid hout
    have x0 := (X.out.below HB4.out X.out.lt).cell 0
    have x1 := (X.out.below HB4.out X.out.lt).cell 1
    have x2 := (X.out.below HB4.out X.out.lt).cell 2
    have x3 := (X.out.below HB4.out X.out.lt).cell 3
    simp at x0 x1 x2 x3
    have CN := Lib.hid (HP.out _ BW.out)
    have BW5 := Lib.hid BW.out
    have K5 := Lib.hid K4.out
    have HX5 := Lib.hid HX4.out
    have HS5 : Hid (ws.heap.size ≤ wc.heap.size) := Lib.hid HB4.out.size
    simp only [znV] at CN
    clear hout HX4 K4 BW HB4
    go_wp2_with fail
    (with_reducible refine (CN.out).mono ?_)
    rintro _ wd ⟨rfl, hbd⟩
    have BW6 := Lib.hid (bel_step BW5.out hbd)
    have K6 := Lib.hid (K5.out.below hbd K5.out.lt)
    have HX6 := Lib.hid (HX5.out.below hbd HX5.out.lt)
    clear hbd BW5 K5 HX5 CN d0 x0 x1 x2 x3
    have zf := K6.out.frozen
    have z0 := K6.out.cell 0
    have z1 := K6.out.cell 1
    have z2 := K6.out.cell 2
    have z3 := K6.out.cell 3
    have z4 := K6.out.cell 4
    have xf := HX6.out.frozen
    have x0 := HX6.out.cell 0
    have x1 := HX6.out.cell 1
    have x2 := HX6.out.cell 2
    have x3 := HX6.out.cell 3
    have x4 := HX6.out.cell 4
    simp at z0 z1 z2 z3 z4 x0 x1 x2 x3 x4
    go_wp2_with fail
    have yk : Blk ((wd.setCell ⟨gx, 3, none⟩ (.int .i64 (mo.getD 0))).setCell ⟨gx, 4, none⟩ (.bool mo.isSome)) (w.heap.size + 1) 41 _ := (K6.out.far (p := ⟨gx, 3, none⟩) (Ne.symm hgk) _).far (p := ⟨gx, 4, none⟩) (Ne.symm hgk) _
    have y := set5c yk rfl (.string ⟨gg.toArray⟩) (.string ⟨ti.toArray⟩) (.string ⟨li.toArray⟩) (.int .i64 (mo.getD 0)) (.bool mo.isSome)
    have y0 := y.cell 0
    have y1 := y.cell 1
    have y2 := y.cell 2
    have y3 := y.cell 3
    have y4 := y.cell 4
    simp at y0 y1 y2 y3 y4
    exact bodyPost_ret (v := enT (some ⟨gg, ti, li, mo.getD 0, mo.isSome⟩)) (by simp [results, Try.results11, go_sem, enT, enV, y0, y1, y2, y3, y4]) rfl
      (show RetEn w out _ _ from by
        rw [HOUT.out]
        exact ⟨rfl, bel5c ((BW6.out.setCell (p := ⟨gx, 3, none⟩) (by show w.heap.size ≤ gx; omega) _).setCell (p := ⟨gx, 4, none⟩) (by show w.heap.size ≤ gx; omega) _) (by omega) _ _ _ _ _⟩)
end Go.Proofs.Ytjmmgekildlckaa
end
