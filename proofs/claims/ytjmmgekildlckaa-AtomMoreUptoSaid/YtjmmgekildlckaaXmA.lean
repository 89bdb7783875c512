/-
  Tokens that are written are read as the same tokens: plain Lean.
  Attributes and tokens in memory.
-/
import Derived.Test.YtjmmgekildlckaaXmP
import Derived.Test.YtjmmgekildlckaaRwx
section
namespace Go.Nst
set_option linter.unusedVariables false
set_option linter.unusedSimpArgs false

theorem esc_no (c d : UInt8) (hd : d = 60 ∨ d = 34) : d ∉ escC c := by
  unfold escC
  (repeat' split) <;> rcases hd with rfl | rfl <;> (try decide) <;> (simp; rintro rfl; simp_all)
theorem writeL_no (l : List UInt8) (d : UInt8) (hd : d = 60 ∨ d = 34) : d ∉ writeL l := by
  unfold writeL
  rw [List.mem_flatMap]
  rintro ⟨c, _, h⟩
  exact esc_no c d hd h
theorem name_beg {n : List UInt8} (h : isName n = true) : ∃ c s, n = c :: s ∧ begB c = true := by
  unfold isName nmB at h
  cases n with
  | nil => simp at h
  | cons c s =>
    simp only [Bool.and_eq_true] at h
    exact ⟨c, s, rfl, h.1.1⟩
theorem nameD_written {n : List UInt8} (h : isName n = true) {c : UInt8} (hc : goB c = false) (t : List UInt8) : nameD (n ++ c :: t) = some (n, c :: t) := by
  unfold isName at h
  simp only [Bool.and_eq_true] at h
  have := take_append_stop h.2 c t hc
  unfold nameD
  rw [this.1, this.2, if_pos h.1]
theorem drop_none {p : UInt8 → Bool} {c : UInt8} {l : List UInt8} (h : p c = false) : (c :: l).dropWhile p = c :: l := by simp [h]
theorem attrD_written {a : Xat} (h : isName a.nm = true) (t : List UInt8) : attrD (a.nm ++ 61 :: 34 :: (writeL a.vl ++ 34 :: t)) = some (a, t) := by
  unfold attrD
  rw [nameD_written h (by decide)]
  simp only
  rw [drop_none (by decide)]
  simp only [if_true]
  rw [drop_none (by decide)]
  simp only [valD]
  rw [if_pos (.inl trivial), cut_yes _ _ _ (writeL_no a.vl 34 (.inr rfl)), if_pos ⟨rfl, writeL_no a.vl 60 (.inl rfl)⟩, read_write]
theorem beg_not {c : UInt8} (h : begB c = true) : blkB c = false ∧ c ≠ 62 ∧ c ≠ 47 := by
  refine ⟨?_, ?_, ?_⟩
  · unfold begB at h
    unfold blkB
    simp at h ⊢
    omega
  · rintro rfl; revert h; decide
  · rintro rfl; revert h; decide
theorem openD_written (n : List UInt8) (t : List UInt8) : ∀ (l : List Xat) (k : Nat) (ats : List Xat), l.length ≤ k → (∀ a ∈ l, isName a.nm = true) → ((ats ++ l).map Xat.nm).Nodup → openD n k ats (l.flatMap wrA ++ 62 :: t) = some ([⟨1, n, ats ++ l, []⟩], t)
  | [], k, ats, _, _, _ => by
    simp only [List.flatMap_nil, List.nil_append, List.append_nil]
    unfold openD
    rw [drop_none (by decide), if_pos (by simp [Lib.hasPrefix, List.isPrefixOf])]
    rfl
  | a :: l, 0, ats, hk, _, _ => by simp at hk
  | a :: l, k + 1, ats, hk, hn, hd => by
    have ha := hn a (by simp)
    obtain ⟨c, s, hc, hb⟩ := name_beg ha
    have hbn := beg_not hb
    have e : (a :: l).flatMap wrA ++ 62 :: t = 32 :: (a.nm ++ 61 :: 34 :: (writeL a.vl ++ 34 :: (l.flatMap wrA ++ 62 :: t))) := by simp [wrA]
    have e2 : (32 :: (a.nm ++ 61 :: 34 :: (writeL a.vl ++ 34 :: (l.flatMap wrA ++ 62 :: t)))).dropWhile blkB = a.nm ++ 61 :: 34 :: (writeL a.vl ++ 34 :: (l.flatMap wrA ++ 62 :: t)) := by
      rw [List.dropWhile_cons_of_pos (by decide), hc, List.cons_append, drop_none hbn.1]
    have e3 : (32 :: (a.nm ++ 61 :: 34 :: (writeL a.vl ++ 34 :: (l.flatMap wrA ++ 62 :: t)))).takeWhile blkB ≠ [] := by
      rw [List.takeWhile_cons_of_pos (by decide)]
      simp
    rw [e]
    unfold openD
    rw [e2]
    rw [if_neg (by rw [hc, List.cons_append, has_cons]; simp [Ne.symm hbn.2.1]), if_neg (by rw [hc, List.cons_append, has_cons]; simp [Ne.symm hbn.2.2]), if_neg e3, attrD_written ha]
    simp only
    have hany : (ats.any fun x => x.nm == a.nm) = false := by
      rw [List.any_eq_false]
      intro x hx hh
      simp only [beq_iff_eq] at hh
      rw [List.map_append, List.map_cons, List.nodup_append] at hd
      exact hd.2.2 x.nm (List.mem_map_of_mem hx) a.nm (by simp) hh
    rw [if_neg (by rw [hany]; simp)]
    rw [openD_written n t l k (ats ++ [a]) (by simpa using hk) (fun x hx => hn x (by simp [hx])) (by simpa using hd)]
    simp
theorem part_written {t : Xtk} {was : Int} (h : mayT t was = true) {r : List UInt8} (hr : t.kd = 3 → (r = [] ∨ ∃ u, r = 60 :: u)) : partD (wrT t ++ r) = some ([t], r) ∧ wrT t ≠ [] ∧ (t.kd ≠ 3 → ∃ u, wrT t = 60 :: u) := by
  obtain ⟨kd, nm, ats, tx⟩ := t
  unfold mayT at h
  simp only at h hr
  by_cases h1 : kd = 1
  · subst h1
    simp only [if_true, Bool.and_eq_true, beq_iff_eq] at h
    obtain ⟨⟨h2, rfl⟩, h4⟩ := h
    unfold attrsOk at h4
    simp only [Bool.and_eq_true, decide_eq_true_eq, List.all_eq_true] at h4
    obtain ⟨c, s, hc, hb⟩ := name_beg h2
    have hd33 : c ≠ 33 ∧ c ≠ 63 ∧ c ≠ 47 := by
      refine ⟨?_, ?_, ?_⟩ <;> (rintro rfl; revert hb; decide)
    have e : wrT ⟨1, nm, ats, []⟩ ++ r = 60 :: (nm ++ (ats.flatMap wrA ++ 62 :: r)) := by simp [wrT]
    refine ⟨?_, by simp [wrT], fun _ => ⟨nm ++ (ats.flatMap wrA ++ [62]), by simp [wrT]⟩⟩
    rw [e]
    unfold partD
    have hno : ¬ Lib.hasPrefix (60 :: (nm ++ (ats.flatMap wrA ++ 62 :: r))) [60, 33, 45, 45] = true ∧ ¬ Lib.hasPrefix (60 :: (nm ++ (ats.flatMap wrA ++ 62 :: r))) [60, 63] = true ∧ ¬ Lib.hasPrefix (60 :: (nm ++ (ats.flatMap wrA ++ 62 :: r))) [60, 33, 68, 79, 67, 84, 89, 80, 69] = true ∧ ¬ Lib.hasPrefix (60 :: (nm ++ (ats.flatMap wrA ++ 62 :: r))) [60, 33, 91, 67, 68, 65, 84, 65, 91] = true ∧ ¬ Lib.hasPrefix (60 :: (nm ++ (ats.flatMap wrA ++ 62 :: r))) [60, 47] = true := by
      rw [hc]
      simp only [List.cons_append, has_cons]
      simp [hd33.1.symm, hd33.2.1.symm, hd33.2.2.symm]
    rw [if_neg hno.1, if_neg hno.2.1, if_neg hno.2.2.1, if_neg hno.2.2.2.1, if_neg hno.2.2.2.2, if_pos (by simp [Lib.hasPrefix, List.isPrefixOf])]
    have hnd : nameD (List.drop 1 (60 :: (nm ++ (ats.flatMap wrA ++ 62 :: r)))) = some (nm, ats.flatMap wrA ++ 62 :: r) := by
      simp only [List.drop_succ_cons, List.drop_zero]
      cases ats with
      | nil => exact nameD_written h2 (by decide) r
      | cons a l =>
        have : (a :: l).flatMap wrA ++ 62 :: r = 32 :: (a.nm ++ 61 :: 34 :: (writeL a.vl ++ 34 :: (l.flatMap wrA ++ 62 :: r))) := by simp [wrA]
        rw [this]
        exact nameD_written h2 (by decide) _
    rw [hnd]
    simp only
    rw [openD_written nm r ats 32 [] h4.2 (fun a ha => h4.1.1 a ha) (by simpa using h4.1.2)]
    rfl
  rw [if_neg h1] at h
  by_cases h2 : kd = 2
  · subst h2
    simp only [if_true, Bool.and_eq_true, beq_iff_eq] at h
    obtain ⟨⟨h2, rfl⟩, rfl⟩ := h
    have e : wrT ⟨2, nm, [], []⟩ ++ r = 60 :: 47 :: (nm ++ 62 :: r) := by simp [wrT]
    refine ⟨?_, by simp [wrT], fun _ => ⟨47 :: (nm ++ [62]), by simp [wrT]⟩⟩
    rw [e]
    unfold partD
    rw [if_neg (by simp [has_cons]), if_neg (by simp [has_cons]), if_neg (by simp [has_cons]), if_neg (by simp [has_cons]), if_pos (by simp [Lib.hasPrefix, List.isPrefixOf])]
    have hnd : nameD (List.drop 2 (60 :: 47 :: (nm ++ 62 :: r))) = some (nm, 62 :: r) := nameD_written h2 (by decide) r
    rw [hnd]
    simp only
    rw [drop_none (by decide)]
    simp only [if_true]
  rw [if_neg h2] at h
  by_cases h3 : kd = 3
  · subst h3
    simp only [if_true, Bool.and_eq_true, beq_iff_eq, Bool.not_eq_true', beq_eq_false_iff_ne] at h
    obtain ⟨⟨⟨rfl, h4⟩, rfl⟩, h6⟩ := h
    have hw : wrT ⟨3, [], [], tx⟩ = writeL tx := by simp [wrT]
    have hne : writeL tx ≠ [] := by
      intro hh
      have h7 := (writeL_len tx).1
      rw [hh] at h7
      exact h4 (List.eq_nil_of_length_eq_zero (by simpa using h7))
    rw [hw]
    refine ⟨?_, hne, fun hh => absurd rfl hh⟩
    have hn60 := writeL_no tx 60 (.inl rfl)
    have hall : (writeL tx).all txtB = true := by
      rw [List.all_eq_true]
      intro c hc
      simp only [txtB, bne_iff_ne, ne_eq]
      intro hh
      exact hn60 ((UInt8.toNat_inj.1 hh : c = 60) ▸ hc)
    obtain ⟨c, s, hcs⟩ := List.exists_cons_of_ne_nil hne
    have hc60 : c ≠ 60 := by
      rintro rfl
      exact hn60 (by rw [hcs]; simp)
    have hno : ∀ (x : List UInt8) (p : List UInt8), ¬ Lib.hasPrefix (c :: x) (60 :: p) = true := by
      intro x p
      rw [has_cons]
      simp [Ne.symm hc60]
    unfold partD
    rw [hcs, List.cons_append, if_neg (hno _ _), if_neg (hno _ _), if_neg (hno _ _), if_neg (hno _ _), if_neg (hno _ _), if_neg (hno _ _), ← List.cons_append, ← hcs]
    rcases hr rfl with rfl | ⟨u, rfl⟩
    · rw [List.append_nil, (take_all hall).1, (take_all hall).2, read_write]
    · have := take_append_stop hall 60 u (by decide)
      rw [this.1, this.2, read_write]
  · rw [if_neg h3] at h
    cases h
theorem add_may {out : List Xtk} {t : Xtk} {was : Int} (h : mayT t was = true) (ho : ∀ u ∈ out.getLast?, u.kd = 3 → was = 3) : addT out t = out ++ [t] := by
  unfold addT
  by_cases h3 : t.kd = 3
  · rw [if_pos h3]
    unfold mayT at h
    rw [if_neg (by omega), if_neg (by omega), if_pos h3] at h
    simp only [Bool.and_eq_true, beq_iff_eq, Bool.not_eq_true', beq_eq_false_iff_ne] at h
    rw [if_neg h.1.1.2]
    rcases hl : out.getLast? with _ | u
    · rfl
    · simp only
      rw [if_neg]
      intro hu
      exact h.2 (ho u (by rw [hl]; rfl) hu)
  · rw [if_neg h3]
theorem written_pz : ∀ (l : List Xtk) (was : Int) (out : List Xtk), mayD was l = true → (∀ u ∈ out.getLast?, u.kd = 3 → was = 3) → Pz out (wrD l) (out ++ l)
  | [], was, out, _, _ => by
    rw [List.append_nil]
    exact .nil _
  | t :: l, was, out, h, ho => by
    simp only [mayD, Bool.and_eq_true] at h
    have hr : t.kd = 3 → (wrD l = [] ∨ ∃ u, wrD l = 60 :: u) := by
      intro hk
      cases l with
      | nil => exact .inl rfl
      | cons t2 l2 =>
        right
        have h2 := h.2
        simp only [mayD, Bool.and_eq_true] at h2
        have hk2 : t2.kd ≠ 3 := by
          intro hh
          have h3 := h2.1
          unfold mayT at h3
          rw [if_neg (by omega), if_neg (by omega), if_pos hh, hk] at h3
          simp at h3
        obtain ⟨u, hu⟩ := (part_written (r := []) h2.1 (fun e => absurd e hk2)).2.2 hk2
        exact ⟨u ++ wrD l2, by simp [wrD, hu]⟩
    obtain ⟨p1, p2, _⟩ := part_written h.1 hr
    obtain ⟨c, s, hcs⟩ := List.exists_cons_of_ne_nil p2
    have e : wrD (t :: l) = wrT t ++ wrD l := by simp [wrD]
    rw [e, hcs, List.cons_append]
    rw [hcs, List.cons_append] at p1
    refine .step p1 ?_
    simp only [List.foldl_cons, List.foldl_nil]
    rw [add_may h.1 ho]
    have := written_pz l t.kd (out ++ [t]) h.2 (by simp)
    rwa [List.append_assoc] at this
theorem read_written {l : List Xtk} (h : mayD 0 l = true) (hl : l.length ≤ 8192) (hw : (wrD l).length ≤ 65536) : tokD (wrD l) = (l, ((wrD l).length : Int), 0) := by
  have := written_pz l 0 [] h (by simp)
  exact tokD_pz this hw hl
end Go.Nst
end
section
namespace Go.Proofs.Ytjmmgekildlckaa
open Go.ChangeShapes Go.WideShapes Go.ChangeAt Go.Deep
open Go.RowKit Go.Nst
set_option maxRecDepth 100000
set_option linter.unusedVariables false
set_option linter.unusedSimpArgs false

/-- the cells of an attribute -/
def xaV (a : Xat) : Array Value := #[.string ⟨a.nm.toArray⟩, .string ⟨a.vl.toArray⟩]
def XaP (w : World) (S : Nat → Prop) (v : Array Value) (a : Xat) : Prop := v = xaV a ∧ a.nm.length ≤ 9223372036854775807 ∧ a.vl.length ≤ 9223372036854775807
theorem xaP : ElP 2 XaP where
  pos := by omega
  size := by rintro w S v x ⟨rfl, _⟩; rfl
  one := by
    rintro w S v x ⟨rfl, _⟩ u hu
    simp only [xaV, List.mem_cons, List.not_mem_nil, or_false] at hu
    rcases hu with rfl | rfl <;> rfl
  keep := by rintro w w' S S' v x _ _ _ h; exact h
/-- the cells of a token -/
def xtV (t : Xtk) (A : Option Addr) (n c : Nat) : Array Value := #[.int .i64 t.kd, .string ⟨t.nm.toArray⟩, .slice A n c, .string ⟨t.tx.toArray⟩]
def XtP (w : World) (S : Nat → Prop) (v : Array Value) (t : Xtk) : Prop := ∃ A c, v = xtV t A t.ats.length c ∧ (-9223372036854775808 ≤ t.kd ∧ t.kd ≤ 9223372036854775807) ∧ t.nm.length ≤ 9223372036854775807 ∧ t.tx.length ≤ 9223372036854775807 ∧ t.ats.length ≤ c ∧ c ≤ 9223372036854775807 ∧ RwA 2 XaP w S A t.ats.length t.ats
theorem xtP : ElP 4 XtP where
  pos := by omega
  size := by rintro w S v x ⟨A, c, rfl, _⟩; rfl
  one := by
    rintro w S v x ⟨A, c, rfl, _⟩ u hu
    simp only [xtV, List.mem_cons, List.not_mem_nil, or_false] at hu
    rcases hu with rfl | rfl | rfl | rfl <;> rfl
  keep := by
    rintro w w' S S' v x h1 h2 h3 ⟨A, c, rfl, hk, hn, ht, hc, hm, hA⟩
    exact ⟨A, c, rfl, hk, hn, ht, hc, hm, hA.keep xaP h1 h2 h3⟩
abbrev XaA := RwA 2 XaP
abbrev XaR := RwR 2 XaP
abbrev XaO := RwO 51 2 XaP
abbrev XtA := RwA 4 XtP
abbrev XtR := RwR 4 XtP
abbrev XtO := RwO 68 4 XtP
theorem iXas : Info Try.prog 22 51 (.agg #[.string ⟨#[]⟩, .string ⟨#[]⟩]) 2 32 := Info.mk_ Try.underlying22 (by kernel_rfl) rfl (by omega)
theorem iXts : Info Try.prog 52 68 (.agg #[.int .i64 0, .string ⟨#[]⟩, .slice none 0 0, .string ⟨#[]⟩]) 4 64 := Info.mk_ Try.underlying52 (by kernel_rfl) rfl (by omega)
/-- an attribute that came in -/
theorem open_xa {H : Type} {enc : TypeId × Value → H} {W : World} (n : Nat) (cs : List Value) (y : DataW H × List MemPlace) (h : DataW.trod enc Try.prog W 0 (fun _ => true) true n 51 cs = some y) : ∃ x, XaP W (fun _ => True) cs.toArray x := by
  obtain ⟨xs, m, hm, _, hlen, hxl, hf⟩ := DataW.trod_struct Try.underlying51 h
  have hC : Try.prog.cellsOf 51 = 2 := by kernel_rfl
  rw [hC] at hlen
  obtain ⟨c0, c1, rfl⟩ : ∃ c0 c1, cs = [c0, c1] := by
    match cs, hlen with
    | [c0, c1], _ => exact ⟨c0, c1, rfl⟩
  have hst : Try.prog.cellsOf 9 = 1 := by kernel_rfl
  match xs, hxl with
  | [y0, y1], _ =>
    have t0 := hf 0 _ rfl
    have t1 := hf 1 _ rfl
    simp only [hst, List.drop_zero, List.drop_succ_cons, List.take_succ_cons, List.take_zero, List.getElem?_cons_zero, List.getElem?_cons_succ] at t0 t1
    obtain ⟨s, e0, _, b0⟩ := DataW.trod_string Try.underlying9 t0
    obtain ⟨u, e1, _, b1⟩ := DataW.trod_string Try.underlying9 t1
    injection e0 with e0
    injection e1 with e1
    subst e0
    subst e1
    refine ⟨⟨s.data.toList, u.data.toList⟩, by simp [xaV], ?_, ?_⟩
    · have : s.data.toList.length = s.size := Array.length_toList
      unfold maxLen at b0; show s.data.toList.length ≤ _; omega
    · have : u.data.toList.length = u.size := Array.length_toList
      unfold maxLen at b1; show u.data.toList.length ≤ _; omega
/-- a token that came in -/
theorem open_xt {H : Type} {enc : TypeId × Value → H} {W : World} (n : Nat) (cs : List Value) (y : DataW H × List MemPlace) (h : DataW.trod enc Try.prog W 0 (fun _ => true) true n 68 cs = some y) : ∃ x, XtP W (fun _ => True) cs.toArray x := by
  obtain ⟨xs, m, hm, _, hlen, hxl, hf⟩ := DataW.trod_struct Try.underlying68 h
  have hC : Try.prog.cellsOf 68 = 4 := by kernel_rfl
  rw [hC] at hlen
  obtain ⟨c0, c1, c2, c3, rfl⟩ : ∃ c0 c1 c2 c3, cs = [c0, c1, c2, c3] := by
    match cs, hlen with
    | [c0, c1, c2, c3], _ => exact ⟨c0, c1, c2, c3, rfl⟩
  have hi : Try.prog.cellsOf 3 = 1 := by kernel_rfl
  have hst : Try.prog.cellsOf 9 = 1 := by kernel_rfl
  have hsl : Try.prog.cellsOf 22 = 1 := by kernel_rfl
  match xs, hxl with
  | [y0, y1, y2, y3], _ =>
    have t0 := hf 0 _ rfl
    have t1 := hf 1 _ rfl
    have t2 := hf 2 _ rfl
    have t3 := hf 3 _ rfl
    simp only [hi, hst, hsl, List.drop_zero, List.drop_succ_cons, List.take_succ_cons, List.take_zero, List.getElem?_cons_zero, List.getElem?_cons_succ] at t0 t1 t2 t3
    obtain ⟨o, e0, _, b0⟩ := DataW.trod_int Try.underlying3 t0
    obtain ⟨s, e1, _, b1⟩ := DataW.trod_string Try.underlying9 t1
    obtain ⟨A, k, c, l, e2, hkc, hc, hA⟩ := open_rows Try.underlying22 (by kernel_rfl) xaP open_xa t2
    obtain ⟨u, e3, _, b3⟩ := DataW.trod_string Try.underlying9 t3
    injection e0 with e0
    injection e1 with e1
    injection e3 with e3
    subst e0
    subst e1
    subst e2
    subst e3
    have hl := hA.len
    subst hl
    refine ⟨⟨o, s.data.toList, l, u.data.toList⟩, A, c, by simp [xtV], bounds_i64 b0, ?_, ?_, hkc, hc, hA⟩
    · have : s.data.toList.length = s.size := Array.length_toList
      unfold maxLen at b1; show s.data.toList.length ≤ _; omega
    · have : u.data.toList.length = u.size := Array.length_toList
      unfold maxLen at b3; show u.data.toList.length ≤ _; omega
/-- a list of tokens that came in -/
theorem open_tokens {H : Type} {enc : TypeId × Value → H} {W : World} {base : Nat} {v : Value} {d : DataW H} {p : List MemPlace} (hv : Value.okWide Try.prog W .any base 52 v) (h0 : DataW.Trod enc Try.prog W 0 (fun _ => true) true 52 v d p) :
    ∃ A k c l, v = .slice A k c ∧ k ≤ c ∧ c ≤ 9223372036854775807 ∧ XtA W (fun _ => True) A k l := by
  obtain ⟨a0, len0, cap0, rfl⟩ := okWide_slice Try.underlying52 hv
  obtain ⟨fuel, hf⟩ := h0
  exact open_rows Try.underlying52 (by kernel_rfl) xtP open_xt hf
section
variable {w w' : World} {S S' : Nat → Prop} {A : Option Addr} {k n c base : Nat}
/-- the i-th attribute -/
theorem xa_at {l : List Xat} (h : XaA w S A k l) {i : Nat} (hi : i < k) : ∃ (a : Xat) (b off : Nat), Hid (l[i]? = some a) ∧ A = some ⟨b, off, none⟩ ∧ S b ∧ b < w.heap.size ∧ a.nm.length ≤ 9223372036854775807 ∧ a.vl.length ≤ 9223372036854775807 ∧
    w.cell? ⟨b, off + i * 2, none⟩ = some (.string ⟨a.nm.toArray⟩) ∧ w.cell? ⟨b, off + i * 2 + 1, none⟩ = some (.string ⟨a.vl.toArray⟩) := by
  obtain ⟨a, v, b, off, h1, h2, h3, h4, ⟨rfl, h5, h6⟩, h7⟩ := h.get hi
  exact ⟨a, b, off, h1, h2, h3, h4, h5, h6, h7 0 _ rfl, h7 1 _ rfl⟩
/-- the i-th token -/
theorem xt_at {l : List Xtk} (h : XtA w S A k l) {i : Nat} (hi : i < k) : ∃ (t : Xtk) (B : Option Addr) (d b off : Nat), Hid (l[i]? = some t) ∧ A = some ⟨b, off, none⟩ ∧ S b ∧ b < w.heap.size ∧ Hid (XtP w S (xtV t B t.ats.length d) t) ∧ (-9223372036854775808 ≤ t.kd ∧ t.kd ≤ 9223372036854775807) ∧ t.nm.length ≤ 9223372036854775807 ∧ t.tx.length ≤ 9223372036854775807 ∧ t.ats.length ≤ d ∧ d ≤ 9223372036854775807 ∧ Hid (XaA w S B t.ats.length t.ats) ∧
    w.cell? ⟨b, off + i * 4, none⟩ = some (.int .i64 t.kd) ∧ w.cell? ⟨b, off + i * 4 + 1, none⟩ = some (.string ⟨t.nm.toArray⟩) ∧ w.cell? ⟨b, off + i * 4 + 2, none⟩ = some (.slice B t.ats.length d) ∧ w.cell? ⟨b, off + i * 4 + 3, none⟩ = some (.string ⟨t.tx.toArray⟩) := by
  obtain ⟨t, v, b, off, h1, h2, h3, h4, hP, h7⟩ := h.get hi
  obtain ⟨B, d, rfl, k1, k2, k3, k4, k5, k6⟩ := id hP
  exact ⟨t, B, d, b, off, h1, h2, h3, h4, hP, k1, k2, k3, k4, k5, k6, h7 0 _ rfl, h7 1 _ rfl, h7 2 _ rfl, h7 3 _ rfl⟩
end
end Go.Proofs.Ytjmmgekildlckaa
end
