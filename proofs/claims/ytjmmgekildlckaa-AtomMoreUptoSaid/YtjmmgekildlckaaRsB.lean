/-
  Short names, kids: the code's and the document's.
-/
import Derived.Test.YtjmmgekildlckaaRsA
import Derived.Test.YtjmmgekildlckaaShelf
namespace Go.Proofs.Ytjmmgekildlckaa
open Go.ChangeShapes Go.WideShapes Go.ChangeAt Go.Deep
open Go.RowKit Go.Nst
set_option maxRecDepth 100000
set_option linter.unusedVariables false
set_option linter.unusedSimpArgs false

/-- behind the last colon -/
def shortD (l : List UInt8) : List UInt8 := (l.reverse.takeWhile fun c => c != 58).reverse
theorem tw_all : ∀ (l : List UInt8), (58 : UInt8) ∉ l → l.takeWhile (fun c => c != 58) = l
  | [], _ => rfl
  | c :: t, h => by
    have hc : (c != 58) = true := by
      have : c ≠ 58 := fun e => h (by simp [e])
      simpa using this
    rw [List.takeWhile_cons, if_pos hc, tw_all t fun hm => h (List.mem_cons_of_mem _ hm)]
theorem sz_of (l : List UInt8) : (ByteArray.mk l.toArray).size = l.length := by simp [ByteArray.size]
theorem shortD_no {l : List UInt8} (h : (58 : UInt8) ∉ l) : shortD l = l := by
  unfold shortD
  rw [tw_all l.reverse fun hm => h (List.mem_reverse.1 hm), List.reverse_reverse]
theorem shortD_at {a b : List UInt8} (h : (58 : UInt8) ∉ b) : shortD (a ++ 58 :: b) = b := by
  unfold shortD
  have e : (a ++ 58 :: b).reverse = b.reverse ++ 58 :: a.reverse := by simp
  rw [e, List.takeWhile_append_of_pos (fun x hx => by
    have : x ≠ 58 := fun e => h (e ▸ List.mem_reverse.1 hx)
    simpa using this)]
  simp
theorem shortD_drop {l : List UInt8} {i : Nat} (hi : l[i]? = some 58) (h : (58 : UInt8) ∉ l.drop (i + 1)) : shortD l = l.drop (i + 1) := by
  obtain ⟨hl, hv⟩ := List.getElem?_eq_some_iff.1 hi
  have e : l = l.take i ++ 58 :: l.drop (i + 1) := by
    conv => lhs; rw [← List.take_append_drop i l, List.drop_eq_getElem_cons hl, hv]
  conv => lhs; rw [e]
  exact shortD_at h
theorem shortD_len (l : List UInt8) : (shortD l).length ≤ l.length := by
  unfold shortD
  rw [List.length_reverse]
  exact Nat.le_trans (List.takeWhile_sublist _).length_le (by rw [List.length_reverse]; exact Nat.le_refl _)
theorem ext_dr (l : List UInt8) (k : Nat) (_ : k ≤ l.length) : (⟨l.toArray⟩ : ByteArray).extract k l.length = ⟨(l.drop k).toArray⟩ := by
  apply ByteArray.ext
  apply Array.toList_inj.1
  rw [ByteArray.data_extract]
  simp
  exact List.take_of_length_le (by rw [List.length_drop]; exact Nat.le_refl _)
theorem mem_dr {l : List UInt8} {i : Nat} (h : ∀ j : Nat, i < j → l[j]? ≠ some 58) : (58 : UInt8) ∉ l.drop (i + 1) := by
  intro hm
  obtain ⟨j, hj, he⟩ := List.mem_iff_getElem.1 hm
  rw [List.getElem_drop] at he
  rw [List.length_drop] at hj
  exact h (i + 1 + j) (by omega) (by rw [List.getElem?_eq_getElem (by omega), he])
/-- where the last colon stands -/
theorem last_at (l : List UInt8) : ∃ z : Nat, z ≤ l.length ∧ Lib.lastIndexByte ⟨l.toArray⟩ 58 = (z : Int) - 1 ∧ shortD l = l.drop z := by
  have hb : ∀ j : Nat, j < l.length → ((⟨l.toArray⟩ : ByteArray).data[j]!) = l[j]! := fun j hj => by simp [hj]
  have hsz : (⟨l.toArray⟩ : ByteArray).size = l.length := sz_of l
  rcases Lib.lastIdx_spec ⟨l.toArray⟩ 58 (⟨l.toArray⟩ : ByteArray).size with ⟨h1, h2⟩ | ⟨i, hi, h1, h2, h3⟩
  · refine ⟨0, Nat.zero_le _, by simpa [Lib.lastIndexByte] using h1, ?_⟩
    rw [List.drop_zero]
    refine shortD_no fun hm => ?_
    obtain ⟨j, hj, he⟩ := List.mem_iff_getElem.1 hm
    refine h2 j (by omega) ?_
    rw [hb j hj, getElem!_pos l j hj, he]
    rfl
  · rw [hsz] at hi h3
    refine ⟨i + 1, by omega, by rw [Lib.lastIndexByte, h1]; omega, ?_⟩
    have hv : l[i]? = some 58 := by
      rw [hb i hi, getElem!_pos l i hi] at h2
      rw [List.getElem?_eq_getElem hi]
      congr 1
      exact UInt8.toNat_inj.1 (by have : ((58 : UInt8).toNat : Int) = 58 := rfl; omega)
    refine shortD_drop hv (mem_dr fun j hj he => ?_)
    obtain ⟨hl, hv2⟩ := List.getElem?_eq_some_iff.1 he
    refine h3 j hj hl ?_
    rw [hb j hl, getElem!_pos l j hl, hv2]
    rfl
theorem short9_any (l : List UInt8) (w : World) (hl : l.length ≤ 4000000) :
    Calls Try.prog 14 #[.string ⟨l.toArray⟩] w fun e w' => e = .returned (.string ⟨(shortD l).toArray⟩) ∧ w' = w := by
  have HC := Lib.hid (Try.strings_LastIndexByte ⟨l.toArray⟩ 58 (by rw [sz_of]; omega) w)
  obtain ⟨z, hz, h1, h2⟩ := last_at l
  have HV := Lib.hid (ext_dr l z hz)
  rw [h1] at HC
  rw [h2]
  clear h1 h2
  have w1 : IntKind.i64.wrap ((z : Int) - 1 + 1) = z := by rw [Int.sub_add_cancel]; exact IntWalk.i64_in _ (by omega)
  have hzi : (z : Int) ≤ (l.length : Int) := by omega
  go_enter Try.func14, Try.ntmps14
  go_wp2_with fail
  (with_reducible refine (HC.out).mono ?_)
  rintro e w2 ⟨rfl, rfl⟩
  go_wp2_with fail
  go_ret
  exact ⟨by rw [← HV.out]; rfl, rfl⟩
theorem refShort9_any (l : List UInt8) (w : World) (hl : l.length ≤ 4000000) :
    Calls Try.prog 5 #[.string ⟨l.toArray⟩] w fun e w' => e = .returned (.string ⟨(shortD l).toArray⟩) ∧ w' = w := by
  go_enter Try.func5, Try.ntmps5
  go_wp2_with fail
  go_loopw [3] (fun v wr => ∃ k : Nat, k ≤ l.length ∧ v = .int .i64 ((k : Int) - 1) ∧ Hid ((58 : UInt8) ∉ l.drop k) ∧ wr = w) (fun v _ => (intOf v + 1).toNat)
  case atStart => exact ⟨l.length, Nat.le_refl _, by go_num, Lib.hid (by simp), rfl⟩
  case round =>
    obtain ⟨k, hk, rfl, HD, rfl⟩ := hrel
    cases k with
    | zero =>
      have hz : decide ((0 : Int) ≤ ((0 : Nat) : Int) - 1) = false := by decide
      have HV := Lib.hid (shortD_no (by simpa using HD.out))
      clear HD
      go_wp2_with fail
      go_ret
      exact ⟨by rw [HV.out]; rfl, rfl⟩
    | succ m =>
      have e1 : ((m + 1 : Nat) : Int) - 1 = m := by omega
      rw [e1]
      have hml : m < l.length := by omega
      have hmi : (m : Int) < (l.length : Int) := by omega
      obtain ⟨ch, hch⟩ : ∃ ch, l[m]? = some ch := ⟨_, List.getElem?_eq_getElem hml⟩
      have hch2 : l[m] = ch := (List.getElem?_eq_some_iff.1 hch).2
      have hb9 : m < (⟨l.toArray⟩ : ByteArray).size := by rw [sz_of]; exact hml
      by_cases h58 : ch = 58
      · subst h58
        have HV := Lib.hid (shortD_drop hch HD.out)
        have HE := Lib.hid (ext_dr l (m + 1) hk)
        have c3 : ((((⟨l.toArray⟩ : ByteArray)[m]'hb9).toNat : Int) == 58) = true := by
          show ((l[m].toNat : Int) == 58) = true
          rw [hch2]; rfl
        clear HD hch hch2
        go_wp2_with fail
        go_ret
        exact ⟨by rw [HV.out, ← HE.out]; rfl, rfl⟩
      · have n1 : ¬ l[m].toNat = 58 := by
          rw [hch2]
          intro hh
          exact h58 (UInt8.toNat_inj.1 (by rw [hh]; rfl))
        have n2 : ((((⟨l.toArray⟩ : ByteArray)[m]'hb9).toNat : Int) == 58) = false := by
          show ((l[m].toNat : Int) == 58) = false
          simp only [beq_eq_false_iff_ne]
          omega
        have HD2 : Hid ((58 : UInt8) ∉ l.drop m) := Lib.hid (by
          rw [List.drop_eq_getElem_cons hml, hch2]
          intro hm
          rcases List.mem_cons.1 hm with e | hm
          · exact h58 e.symm
          · exact HD.out hm)
        clear HD hch hch2
        go_wp2_with fail
        go_roundw
        case rel => exact ⟨m, by omega, by go_num, HD2, by first | trivial | rfl⟩
        case measure => simp [intOf] <;> omega
/-- the kids of a short name -/
def kidsL (l : List Elm) (s : List UInt8) : List Elm := l.filter fun k => shortD k.nm == s
def kidsD (e : Elm) (s : List UInt8) : List Elm := kidsL e.kids s
/-- the first one, or none -/
def kidD (e : Elm) (s : List UInt8) : Elm := (kidsD e s).headD Elm.zero
def hasD (e : Elm) (s : List UInt8) : Bool := !(kidsD e s).isEmpty
theorem kidsL_next {l : List Elm} {k : Nat} {q : Elm} (hg : l[k]? = some q) (s : List UInt8) : kidsL (l.take (k + 1)) s = if shortD q.nm == s then kidsL (l.take k) s ++ [q] else kidsL (l.take k) s := by
  unfold kidsL
  rw [List.take_add_one, hg, List.filter_append]
  cases h : shortD q.nm == s <;> simp [h]
theorem kidsL_len (l : List Elm) (s : List UInt8) : (kidsL l s).length ≤ l.length := List.length_filter_le _ _
/-- kids handed back -/
def RetEs (w : World) (S : Nat → Prop) (l : List Elm) (e : Ending) (w' : World) : Prop := ∃ A n c, e = .returned (.slice A n c) ∧ EmA w' (fun b => S b ∨ w.heap.size ≤ b) A n l ∧ n ≤ c ∧ c ≤ 9223372036854775807 ∧ Below w.heap.size w w'
def RetEl (w : World) (S : Nat → Prop) (k : Elm) (b : Bool) (e : Ending) (w' : World) : Prop := ∃ A c B d, e = .returned (.tuple #[.agg (emV k A k.ats.length c B k.kids.length d), .bool b]) ∧ EmF w' (fun b => S b ∨ w.heap.size ≤ b) k A c B d ∧ Below w.heap.size w w'
set_option maxHeartbeats 4000000 in
theorem kids9_any (e : Elm) (A B : Option Addr) (c d : Nat) (s : List UInt8) (w : World) (S : Nat → Prop) (he : EmF w S e A c B d) :
    Calls Try.prog 17 #[.agg (emV e A e.ats.length c B e.kids.length d), .string ⟨s.toArray⟩] w (RetEs w S (kidsD e s)) := by
  obtain ⟨nm, ats, tx, l⟩ := e
  obtain ⟨h1, h2, ⟨hc1, hc2⟩, ⟨hd1, hd2⟩, ⟨hs1, hs2⟩, h6, h7, hB⟩ := he
  have HK := Lib.hid (hB.wide emP (S' := fun b => S b ∧ b < w.heap.size) (fun b h k => ⟨h, k⟩))
  simp only [Elm.nm, Elm.ats, Elm.tx, Elm.kids, kidsD, emV] at *
  clear h1 h2 h6 h7 hB
  obtain ⟨bx, hbx⟩ : ∃ bx : Array Value, bx = #[.string ⟨nm.toArray⟩, .slice A ats.length c, .string ⟨tx.toArray⟩, .slice B l.length d] := ⟨_, rfl⟩
  have HBX := Lib.hid hbx
  clear hbx
  have B0 := Lib.hid (bel_alloc (Below.refl w.heap.size w) (.cells bx 25))
  have X0 := Lib.hid (Blk.new w 25 bx)
  go_enter Try.func17, Try.ntmps17
  go_wp2_with fail
  go_loopw [5, 11] (fun v i wr => ∃ (k : Nat) (A' : Option Addr) (n c' : Nat), k ≤ l.length ∧ i = .int .i64 k ∧ v = .slice A' n c' ∧ n ≤ k ∧ Hid (EmO wr (w.heap.size + 1) (fun b => S b ∧ b < w.heap.size) A' n c' (kidsL (l.take k) s)) ∧ Hid (Below (w.heap.size + 1) (w.alloc (.cells bx 25)) wr)) (fun _ i _ => l.length - (intOf i).toNat)
  case atStart => exact ⟨0, none, 0, 0, Nat.zero_le _, rfl, rfl, Nat.le_refl _, Lib.hid RwO.nil, Lib.hid (by rw [HBX.out]; exact Below.refl _ _)⟩
  case round =>
    obtain ⟨k, A', n, c', hkl, rfl, rfl, hn, HO, HB⟩ := hrel
    have hcp1 := HO.out.cap.1
    have hcp2 := HO.out.cap.2
    have hbw : Below w.heap.size w wr := B0.out.trans (HB.out.mono (by omega))
    have hz : w.heap.size + 1 ≤ wr.heap.size := by
      have := HB.out.size
      simpa using this
    have X1 := X0.out.below HB.out (Nat.lt_succ_self _)
    have x3 := X1.cell 3
    rw [HBX.out] at x3
    simp at x3
    have HX1 := Lib.hid X1
    have HBW := Lib.hid hbw
    clear X1 hbw
    by_cases hlt : k < l.length
    · obtain ⟨q, A1, c1, B1, d1, b, off, HG, rfl, hS, hbs, HP, HF, f0, f1, f2, f3⟩ := em_at (HK.out.bel emP HBW.out) hlt
      have hlt' : decide (k < l.length) = true := by simpa using hlt
      have hki : (k : Int) < (l.length : Int) := by omega
      have HN := Lib.hid (kidsL_next HG.out s)
      have hqn := HF.out.hn
      obtain ⟨hqc1, hqc2⟩ := HF.out.hc
      obtain ⟨hqd1, hqd2⟩ := HF.out.hd
      obtain ⟨qn, qa, qt, qk⟩ := q
      simp only [Elm.nm, Elm.ats, Elm.tx, Elm.kids] at hqn hqc1 hqc2 hqd1 hqd2 f0 f1 f2 f3 HN HP
      have HC := Lib.hid (fun W => short9_any qn W (by omega))
      have D1 := bel_alloc (Below.refl wr.heap.size wr) (.cells (emV (.mk qn qa qt qk) A1 qa.length c1 B1 qk.length d1) 25)
      have D2 := bel_alloc D1 (.cells (emV (.mk qn qa qt qk) A1 qa.length c1 B1 qk.length d1) 25)
      clear hS HF
      cases hsb : shortD qn == s with
      | false =>
        have HN : Hid (kidsL (l.take (k + 1)) s = kidsL (l.take k) s) := Lib.hid (by rw [HN.out]; exact if_neg (by rw [hsb]; decide))
        have HO1 : Hid (EmO (wr.alloc (.cells (emV (.mk qn qa qt qk) A1 qa.length c1 B1 qk.length d1) 25)) (w.heap.size + 1) (fun b => S b ∧ b < w.heap.size) A' n c' (kidsL (l.take (k + 1)) s)) := Lib.hid (by rw [HN.out]; exact HO.out.bel emP D1)
        have HB1 : Hid (Below (w.heap.size + 1) (w.alloc (.cells bx 25)) (wr.alloc (.cells (emV (.mk qn qa qt qk) A1 qa.length c1 B1 qk.length d1) 25))) := Lib.hid (HB.out.trans (D1.mono hz))
        clear D1 D2 HP HN
        try simp only [emV, Elm.nm, Elm.ats, Elm.tx, Elm.kids] at HO1 HB1
        go_wp2_with fail
        (with_reducible refine (HC.out _).mono ?_)
        rintro e w2 ⟨rfl, rfl⟩
        go_wp2_with fail
        go_roundw
        case rel => exact ⟨k + 1, A', n, c', by omega, by go_num, rfl, by omega, HO1, HB1⟩
        case measure => simp [intOf]; omega
      | true =>
        have HN : Hid (kidsL (l.take (k + 1)) s = kidsL (l.take k) s ++ [.mk qn qa qt qk]) := Lib.hid (by rw [HN.out]; exact if_pos (by rw [hsb]))
        have ho := HO.out.bel emP D2
        have hr : EmR ((wr.alloc (.cells (emV (.mk qn qa qt qk) A1 qa.length c1 B1 qk.length d1) 25)).alloc (.cells (emV (.mk qn qa qt qk) A1 qa.length c1 B1 qk.length d1) 25)) (fun b => (S b ∧ b < w.heap.size) ∧ some b ≠ (Value.slice A' n c').ownBlock) (some ⟨wr.heap.size + 1, 0, none⟩) 1 [.mk qn qa qt qk] := by
          have hb2 := Blk.new (wr.alloc (.cells (emV (.mk qn qa qt qk) A1 qa.length c1 B1 qk.length d1) 25)) 25 (emV (.mk qn qa qt qk) A1 qa.length c1 B1 qk.length d1)
          rw [show (wr.alloc (.cells (emV (.mk qn qa qt qk) A1 qa.length c1 B1 qk.length d1) 25)).heap.size = wr.heap.size + 1 by simp] at hb2
          refine RwR.blk1 hb2 (emP.bel (emP.wide HP.out (fun b hb _ => ⟨hb, fun e => ?_⟩)) D2)
          have := HO.out.lt b e.symm
          omega
        have hba : w.heap.size + 1 ≤ ((wr.alloc (.cells (emV (.mk qn qa qt qk) A1 qa.length c1 B1 qk.length d1) 25)).alloc (.cells (emV (.mk qn qa qt qk) A1 qa.length c1 B1 qk.length d1) 25)).heap.size := by simp; omega
        have HBA := Lib.hid (HB.out.trans (D2.mono hz))
        clear D1 D2 HP HO HB
        simp only [emV, Elm.nm, Elm.ats, Elm.tx, Elm.kids] at ho hr hba HBA
        go_wp2_with fail
        (with_reducible refine (HC.out _).mono ?_)
        rintro e w2 ⟨rfl, rfl⟩
        go_wp2_with (at_builtin; go_loud (refine wpList_appZ emP iEms rfl rfl rfl ho rfl hr (by omega) (by omega) hba ?_; intro A7 c7 w7 ho7 hb7 hgr7))
        go_wp2_with fail
        go_roundw
        case rel => exact ⟨k + 1, A7, n + 1, c7, by omega, by go_num, rfl, by omega, Lib.hid (by rw [HN.out]; exact ho7), Lib.hid (HBA.out.trans hb7)⟩
        case measure => simp [intOf]; omega
    · obtain rfl : k = l.length := by omega
      have hlt' : decide (l.length < l.length) = false := by simp
      have HQ := Lib.hid (HO.out.qs emP (S' := fun b => S b ∨ w.heap.size ≤ b) (fun b h _ => .inl h.1) (fun b h _ => .inr (by omega)))
      rw [List.take_length] at HQ
      clear HO HB
      go_wp2_with fail
      go_ret
      exact ⟨A', n, c', rfl, HQ.out, hcp1, hcp2, HBW.out⟩
set_option maxHeartbeats 4000000 in
theorem kid9_any (e : Elm) (A B : Option Addr) (c d : Nat) (s : List UInt8) (w : World) (S : Nat → Prop) (he : EmF w S e A c B d) :
    Calls Try.prog 24 #[.agg (emV e A e.ats.length c B e.kids.length d), .string ⟨s.toArray⟩] w (RetEl w S (kidD e s) (hasD e s)) := by
  have he1 := em_wide (S' := fun b => S b ∧ b < w.heap.size) he (fun b h k => ⟨h, k⟩)
  have b1 := bel_alloc (Below.refl w.heap.size w) (.cells (emV e A e.ats.length c B e.kids.length d) 25)
  have b2 := bel_alloc b1 (.cells #[.string ⟨#[]⟩, .slice none 0 0, .string ⟨#[]⟩, .slice none 0 0] 25)
  have k2 := Blk.new (w.alloc (.cells (emV e A e.ats.length c B e.kids.length d) 25)) 25 #[.string ⟨#[]⟩, .slice none 0 0, .string ⟨#[]⟩, .slice none 0 0]
  rw [show (w.alloc (.cells (emV e A e.ats.length c B e.kids.length d) 25)).heap.size = w.heap.size + 1 by simp] at k2
  have HC := Lib.hid (kids9_any e A B c d s _ _ (em_bel he1 b2))
  have hsz : ((w.alloc (.cells (emV e A e.ats.length c B e.kids.length d) 25)).alloc (.cells #[.string ⟨#[]⟩, .slice none 0 0, .string ⟨#[]⟩, .slice none 0 0] 25)).heap.size = w.heap.size + 2 := by simp
  have HSZ := Lib.hid hsz
  obtain ⟨nm, ats, tx, l⟩ := e
  obtain ⟨h1, h2, ⟨hc1, hc2⟩, ⟨hd1, hd2⟩, ⟨hs1, hs2⟩, h6, h7, hB⟩ := he
  simp only [Elm.nm, Elm.ats, Elm.tx, Elm.kids, emV] at *
  have HV : Hid (kidD (.mk nm ats tx l) s = (kidsD (.mk nm ats tx l) s).headD Elm.zero ∧ hasD (.mk nm ats tx l) s = !(kidsD (.mk nm ats tx l) s).isEmpty) := Lib.hid ⟨rfl, rfl⟩
  have K2 := Lib.hid k2
  have B2 := Lib.hid b2
  clear h1 h2 h6 h7 hB he1 b1 b2 k2 hsz
  generalize kidsD (.mk nm ats tx l) s = L at *
  go_enter Try.func24, Try.ntmps24
  go_wp2_with fail
  (with_reducible refine (HC.out).mono ?_)
  rintro e w1 ⟨A1, n, c1, rfl, HA, hn1, hn2, hb⟩
  have K3 := Lib.hid (K2.out.below hb K2.out.lt)
  have B3 := Lib.hid (bel_step B2.out hb)
  have HLN := Lib.hid HA.len
  have HA1 := Lib.hid HA
  have zf := K3.out.frozen
  have z0 := K3.out.cell 0
  have z1 := K3.out.cell 1
  have z2 := K3.out.cell 2
  have z3 := K3.out.cell 3
  simp at z0 z1 z2 z3
  clear hb HA HC K2 B2
  cases L with
  | nil =>
    obtain rfl : n = 0 := by have := HLN.out; simpa using this.symm
    go_wp2_with fail
    have y := set4c K3.out rfl (.string ⟨#[]⟩) (.slice none 0 0) (.string ⟨#[]⟩) (.slice none 0 0)
    have y0 := y.cell 0
    have y1 := y.cell 1
    have y2 := y.cell 2
    have y3 := y.cell 3
    simp at y0 y1 y2 y3
    exact bodyPost_ret (v := .tuple #[.agg #[.string ⟨#[]⟩, .slice none 0 0, .string ⟨#[]⟩, .slice none 0 0], .bool false]) (by simp [results, Try.results24, go_sem, y0, y1, y2, y3]) rfl
      (show RetEl w S (kidD (.mk nm ats tx l) s) (hasD (.mk nm ats tx l) s) _ _ from by
        rw [HV.out.1, HV.out.2]
        exact ⟨none, 0, none, 0, rfl, em_zero _ _ _ _ (by omega) (by omega), bel4c B3.out (by omega) _ _ _ _⟩)
  | cons q r =>
    have hn0 : 0 < n := by have := HLN.out; simp at this; omega
    obtain ⟨q2, A2, c2, BB, d2, b, off, HG, rfl, hS, hbs, HP, HF, f0, f1, f2, f3⟩ := em_at HA1.out hn0
    have hqq : q2 = q := by have := HG.out; simpa using this.symm
    subst hqq
    have hlt' : decide (0 < n) = true := by simpa using hn0
    have hne : decide ((n : Int) = 0) = false := by simp; omega
    have hne2 : ¬ n = 0 := by omega
    have hni : (0 : Int) < (n : Int) := by omega
    simp only [Nat.zero_mul, Nat.add_zero] at f0 f1 f2 f3
    obtain ⟨hqc1, hqc2⟩ := HF.out.hc
    obtain ⟨hqd1, hqd2⟩ := HF.out.hd
    clear HG hS HP HA1
    go_wp2_with fail
    have y := set4c K3.out rfl (.string ⟨q2.nm.toArray⟩) (.slice A2 q2.ats.length c2) (.string ⟨q2.tx.toArray⟩) (.slice BB q2.kids.length d2)
    have y0 := y.cell 0
    have y1 := y.cell 1
    have y2 := y.cell 2
    have y3 := y.cell 3
    simp at y0 y1 y2 y3
    exact bodyPost_ret (v := .tuple #[.agg (emV q2 A2 q2.ats.length c2 BB q2.kids.length d2), .bool true]) (by simp [results, Try.results24, go_sem, emV, y0, y1, y2, y3]) rfl
      (show RetEl w S (kidD (.mk nm ats tx l) s) (hasD (.mk nm ats tx l) s) _ _ from by
        rw [HV.out.1, HV.out.2]
        refine ⟨A2, c2, BB, d2, rfl, em_keep (fun b hb hlt => ?_) ?_ (fun b hb _ => ?_) HF.out, bel4c B3.out (by omega) _ _ _ _⟩
        · have hbn : b ≠ w.heap.size + 1 := by
            have := HSZ.out
            rcases hb with h | h <;> omega
          simp [World.setCell, Array.getElem?_modify, Ne.symm hbn]
        · simp [World.setCell]
        · have := HSZ.out
          rcases hb with h | h
          · exact .inl h.1
          · exact .inr (by omega))
end Go.Proofs.Ytjmmgekildlckaa
