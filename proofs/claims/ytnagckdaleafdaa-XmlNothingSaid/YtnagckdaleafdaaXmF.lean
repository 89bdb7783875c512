/-
  The reader's methods: blank, take, must, upto, name, value, attr; Name.
-/
import Derived.Test.YtnagckdaleafdaaXmE
namespace Go.Proofs.Ytnagckdaleafdaa
open Go.RowKit Go.Nst
set_option maxRecDepth 100000
set_option linter.unusedVariables false
set_option linter.unusedSimpArgs false

abbrev XS := List UInt8 × Bool
def cTake (p : List UInt8) (s : XS) : XS := if Lib.hasPrefix s.1 p = true then (s.1.drop p.length, s.2) else s
def cMust (p : List UInt8) (s : XS) : XS := if Lib.hasPrefix s.1 p = true then (s.1.drop p.length, s.2) else (s.1, true)
def cUpto (sep : List UInt8) (s : XS) : List UInt8 × XS := if (Lib.cut s.1 sep).2.2 = true then ((Lib.cut s.1 sep).1, ((Lib.cut s.1 sep).2.1, s.2)) else ([], (s.1, true))
def cName (s : XS) : List UInt8 × XS := (s.1.takeWhile goB, (s.1.dropWhile goB, s.2 || !nmB (s.1.takeWhile goB)))
def cBlank (s : XS) : XS := (s.1.dropWhile blkB, s.2)
def RetX (w : World) (g : Nat) (v : Value) (s : XS) (e : Ending) (w' : World) : Prop := e = .returned v ∧ XrB w' g s.1 s.2 ∧ w.grownBy w' (some g)
theorem ML.xr {w w' : World} {g : Nat} {l : List UInt8} {b : Bool} (h : ML w) (hB : XrB w g l b) (hg : w.grownBy w' (some g)) : ML w' := by
  obtain ⟨m, hm⟩ := h
  have hlt := World.block_lt_of_cell? w _ hm
  refine ⟨m, ?_⟩
  rw [World.cell?_of_block (hg.block _ hlt ?_)]
  · exact hm
  · intro e
    injection e with e
    have := hB.cell 0
    simp only at e
    rw [← e] at this
    rw [hm] at this
    simp at this
theorem grown_two {a b c : World} {r : Option Nat} (h1 : a.grownBy b r) (h2 : b.grownBy c r) : a.grownBy c r := h1.trans h2
theorem blank8_any (g : Nat) (s : XS) (w : World) (hB : XrB w g s.1 s.2) (hl : s.1.length ≤ 1000000) :
    Calls Try.prog 58 #[.pointer (some ⟨g, 0, none⟩)] w (RetX w g (.bool (!(s.1.takeWhile blkB).isEmpty)) (cBlank s)) := by
  obtain ⟨l, b⟩ := s
  have HC := Lib.hid (run_blk g l b w hB hl)
  have HV : Hid ((!(l.takeWhile blkB).isEmpty) = ((⟨(l.takeWhile blkB).toArray⟩ : ByteArray) != ⟨#[]⟩)) := Lib.hid (by
    cases l.takeWhile blkB with
    | nil => rfl
    | cons c t => rfl)
  clear hB hl
  go_enter Try.func58, Try.ntmps58
  go_wp2_with fail
  (with_reducible refine (HC.out).mono ?_)
  rintro e w2 ⟨rfl, h1, h2⟩
  go_wp2_with fail
  go_ret
  exact ⟨rfl, h1, h2⟩
theorem take8_any (g : Nat) (p : List UInt8) (s : XS) (w : World) (hB : XrB w g s.1 s.2) :
    Calls Try.prog 31 #[.pointer (some ⟨g, 0, none⟩), .string ⟨p.toArray⟩] w (RetX w g (.bool (Lib.hasPrefix s.1 p)) (cTake p s)) := by
  obtain ⟨l, b⟩ := s
  have hg := Blk.lt hB
  have c0 := Blk.cell hB 0
  simp at c0
  have hfz := Blk.frozen hB
  have HB := Lib.hid hB
  clear hB
  have HC := Try.strings_CutPrefix ⟨l.toArray⟩ ⟨p.toArray⟩ w
  simp only at HC
  have HC := Lib.hid HC
  have HE : Hid (Lib.trimPrefix l p = (cTake p (l, b)).1 ∧ (cTake p (l, b)).2 = b) := Lib.hid (by unfold cTake Lib.trimPrefix; split <;> simp_all)
  go_enter Try.func31, Try.ntmps31
  go_wp2_with fail
  (with_reducible refine (HC.out).mono ?_)
  rintro e w2 ⟨rfl, rfl⟩
  go_wp2_with fail
  go_ret
  refine ⟨rfl, ?_, only_setCell (World.grownBy.refl _ _) (.inl rfl) _⟩
  have := Blk.set_ HB.out 0 (.string ⟨(Lib.trimPrefix l p).toArray⟩)
  unfold XrB
  rw [← HE.out.1, HE.out.2]
  simpa using this
theorem must8_any (g : Nat) (p : List UInt8) (s : XS) (w : World) (hB : XrB w g s.1 s.2) :
    Calls Try.prog 59 #[.pointer (some ⟨g, 0, none⟩), .string ⟨p.toArray⟩] w (RetX w g (.tuple #[]) (cMust p s)) := by
  have hg := Blk.lt hB
  have HC := take8_any g p s w hB
  have hc : cMust p s = (if Lib.hasPrefix s.1 p = true then cTake p s else ((cTake p s).1, true)) := by unfold cMust cTake; split <;> rfl
  rw [hc]
  clear hc hB
  generalize cTake p s = s2 at *
  cases hh : Lib.hasPrefix s.1 p with
  | true =>
    rw [hh] at HC
    have HC := Lib.hid HC
    clear hh
    simp only [if_true]
    go_enter Try.func59, Try.ntmps59
    go_wp2_with fail
    (with_reducible refine (HC.out).mono ?_)
    rintro e w2 ⟨rfl, h1, h2⟩
    go_wp2_with fail
    go_end0
    exact ⟨rfl, h1, h2⟩
  | false =>
    rw [hh] at HC
    have HC := Lib.hid HC
    clear hh
    simp only [Bool.false_eq_true, if_false]
    go_enter Try.func59, Try.ntmps59
    go_wp2_with fail
    (with_reducible refine (HC.out).mono ?_)
    rintro e w2 ⟨rfl, h1, h2⟩
    have c1 := Blk.cell h1 1
    simp at c1
    have hfz := Blk.frozen h1
    have H1 := Lib.hid h1
    clear h1
    go_wp2_with fail
    go_end0
    exact ⟨rfl, by have := Blk.set_ H1.out 1 (.bool true); simpa [XrB] using this, only_setCell h2 (.inl rfl) _⟩
theorem cut_sep (l sep : List UInt8) (w : World) (hl : l.length ≤ 1000000) (h : ML w) :
    Calls Try.prog 56 #[.string ⟨l.toArray⟩, .string ⟨sep.toArray⟩] w fun e w' => e = .returned (.tuple #[.string ⟨(Lib.cut l sep).1.toArray⟩, .string ⟨(Lib.cut l sep).2.1.toArray⟩, .bool (Lib.cut l sep).2.2]) ∧ ∃ n, w' = w.drewN n := by
  obtain ⟨m, hm⟩ := h
  have := Try.strings_Cut ⟨l.toArray⟩ ⟨sep.toArray⟩ m w (by rw [size_of]; omega) hm
  simpa using this
theorem upto8_any (g : Nat) (sep : List UInt8) (s : XS) (w : World) (hB : XrB w g s.1 s.2) (hl : s.1.length ≤ 1000000) (hM : ML w) :
    Calls Try.prog 32 #[.pointer (some ⟨g, 0, none⟩), .string ⟨sep.toArray⟩] w (RetX w g (.string ⟨(cUpto sep s).1.toArray⟩) (cUpto sep s).2) := by
  obtain ⟨l, b⟩ := s
  have hg := Blk.lt hB
  have c0 := Blk.cell hB 0
  simp at c0
  have hfz := Blk.frozen hB
  have HB := Lib.hid hB
  clear hB
  have HC := cut_sep l sep w hl hM
  unfold cUpto
  simp only
  generalize Lib.cut l sep = r at *
  obtain ⟨x, y, t⟩ := r
  simp only at HC ⊢
  cases t with
  | true =>
    have HC := Lib.hid HC
    simp only [if_true]
    go_enter Try.func32, Try.ntmps32
    go_wp2_with fail
    (with_reducible refine (HC.out).mono ?_)
    rintro e w2 ⟨rfl, n, rfl⟩
    go_wp2_with fail
    go_ret
    refine ⟨rfl, ?_, only_setCell (only_of_below (Nst.below_drewN (Below.refl _ _) n) _) (.inl rfl) _⟩
    have := Blk.set_ (HB.out.drewN n) 0 (.string ⟨y.toArray⟩)
    simpa [XrB] using this
  | false =>
    have HC := Lib.hid HC
    simp only [Bool.false_eq_true, if_false]
    go_enter Try.func32, Try.ntmps32
    go_wp2_with fail
    (with_reducible refine (HC.out).mono ?_)
    rintro e w2 ⟨rfl, n, rfl⟩
    have c1 := Blk.cell (HB.out.drewN n) 1
    simp at c1
    go_wp2_with fail
    go_ret
    refine ⟨rfl, ?_, only_setCell (only_of_below (Nst.below_drewN (Below.refl _ _) n) _) (.inl rfl) _⟩
    have := Blk.set_ (HB.out.drewN n) 1 (.bool true)
    simpa [XrB] using this
theorem nmB_nil : nmB [] = false := rfl
theorem nmB_cons (c : UInt8) (t : List UInt8) : nmB (c :: t) = (begB c && decide ((c :: t).length ≤ 64)) := rfl
theorem name8_any (g : Nat) (s : XS) (w : World) (hB : XrB w g s.1 s.2) (hl : s.1.length ≤ 1000000) :
    Calls Try.prog 27 #[.pointer (some ⟨g, 0, none⟩)] w (RetX w g (.string ⟨(cName s).1.toArray⟩) (cName s).2) := by
  obtain ⟨l, b⟩ := s
  have HC := Lib.hid (run_go g l b w hB hl)
  have hlen : (l.takeWhile goB).length ≤ l.length := (List.takeWhile_prefix goB).length_le
  have hlen2 : (l.takeWhile goB).length ≤ 1000000 := Nat.le_trans hlen hl
  clear hB hl hlen
  unfold XRun at HC
  unfold cName
  simp only
  generalize l.takeWhile goB = n at *
  generalize l.dropWhile goB = r at *
  have bad : ∀ (w2 : World), XrB w2 g r b → w.grownBy w2 (some g) → nmB n = false → RetX w g (.string ⟨n.toArray⟩) (r, b || !nmB n) (.returned (.string ⟨n.toArray⟩)) (w2.setCell ⟨g, 1, none⟩ (.bool true)) := by
    intro w2 h1 h2 h3
    refine ⟨rfl, ?_, only_setCell h2 (.inl rfl) _⟩
    have := Blk.set_ h1 1 (.bool true)
    rw [h3]
    simpa [XrB] using this
  have BAD := Lib.hid bad
  clear bad
  cases n with
  | nil =>
    go_enter Try.func27, Try.ntmps27
    go_wp2_with fail
    (with_reducible refine (HC.out).mono ?_)
    rintro e w2 ⟨rfl, h1, h2⟩
    have c1 := Blk.cell h1 1
    simp at c1
    have hfz := Blk.frozen h1
    have H1 := Lib.hid h1
    clear h1
    go_wp2_with fail
    go_ret
    exact BAD.out _ H1.out h2 rfl
  | cons c t =>
    have hsz : (⟨(c :: t).toArray⟩ : ByteArray).size = (c :: t).length := size_of _
    have hpos : 0 < (⟨(c :: t).toArray⟩ : ByteArray).size := by rw [hsz]; simp
    have hget : (⟨(c :: t).toArray⟩ : ByteArray)[0] = c := rfl
    have hne : ((⟨(c :: t).toArray⟩ : ByteArray) == ⟨#[]⟩) = false := rfl
    have HN : Hid (nmB (c :: t) = (begR (c.toNat : Int) && decide ((c :: t).length ≤ 64))) := Lib.hid (by rw [nmB_cons, begR_of])
    have hc8 := c.toNat_lt
    have HB2 := Lib.hid (fun W => begins8_any (c.toNat : Int) W)
    have hbl : bl ⟨(c :: t).toArray⟩ = c :: t := bl_of _
    obtain ⟨sn, hsn⟩ : ∃ sn : ByteArray, (⟨(c :: t).toArray⟩ : ByteArray) = sn := ⟨_, rfl⟩
    rw [hsn] at HC BAD hne ⊢
    rw [hsn] at hsz hpos hbl
    have hg0 : sn[0] = c := by subst hsn; rfl
    have hds : decide ((64 : Int) < (sn.size : Int)) = !decide ((c :: t).length ≤ 64) := by rw [hsz, Bool.eq_iff_iff]; simp; omega
    have hss : sn.size ≤ 1000000 := by rw [hsz]; exact hlen2
    have hne1 : ¬ sn.toList = [] := by rw [ByteArray.toList_eq, show sn.data.toList = c :: t from hbl]; simp
    have hne2 : sn.toList.isEmpty = false := by rw [List.isEmpty_eq_false_iff]; exact hne1
    have HBS := Lib.hid (And.intro hsz hbl)
    clear hget hsz hbl hsn hlen2
    by_cases h1 : begR (c.toNat : Int) = true
    · rw [h1] at HB2 HN
      by_cases h2 : (c :: t).length ≤ 64
      · have hd : decide ((64 : Int) < (sn.size : Int)) = false := by rw [hds]; simp; simpa using h2
        have HNN : Hid (nmB (c :: t) = true) := Lib.hid (by rw [HN.out]; simp; simpa using h2)
        clear hds h1 h2
        go_enter Try.func27, Try.ntmps27
        go_wp2_with fail
        (with_reducible refine (HC.out).mono ?_)
        rintro e w2 ⟨rfl, h1, h2⟩
        go_wp2_with fail
        (with_reducible refine (HB2.out _).mono ?_)
        rintro e w3 ⟨rfl, rfl⟩
        go_wp2_with fail
        go_ret
        exact ⟨rfl, by rw [HNN.out]; simpa using h1, h2⟩
      · have hd : decide ((64 : Int) < (sn.size : Int)) = true := by rw [hds]; simp; simp at h2; omega
        have HNN : Hid (nmB (c :: t) = false) := Lib.hid (by rw [HN.out]; simp; simp at h2; omega)
        clear hds h1 h2
        go_enter Try.func27, Try.ntmps27
        go_wp2_with fail
        (with_reducible refine (HC.out).mono ?_)
        rintro e w2 ⟨rfl, h1, h2⟩
        have c1 := Blk.cell h1 1
        simp at c1
        have hfz := Blk.frozen h1
        have H1 := Lib.hid h1
        clear h1
        go_wp2_with fail
        (with_reducible refine (HB2.out _).mono ?_)
        rintro e w3 ⟨rfl, rfl⟩
        go_wp2_with fail
        go_ret
        exact BAD.out _ H1.out h2 HNN.out
    · have h1 : begR (c.toNat : Int) = false := by simpa using h1
      rw [h1] at HB2 HN
      have HNN : Hid (nmB (c :: t) = false) := Lib.hid (by rw [HN.out]; rfl)
      clear hds h1
      go_enter Try.func27, Try.ntmps27
      go_wp2_with fail
      (with_reducible refine (HC.out).mono ?_)
      rintro e w2 ⟨rfl, h1, h2⟩
      have c1 := Blk.cell h1 1
      simp at c1
      have hfz := Blk.frozen h1
      have H1 := Lib.hid h1
      clear h1
      go_wp2_with fail
      (with_reducible refine (HB2.out _).mono ?_)
      rintro e w3 ⟨rfl, rfl⟩
      go_wp2_with fail
      go_ret
      exact BAD.out _ H1.out h2 HNN.out
/-! Name, value, attr -/
theorem Name8_any (l : List UInt8) (w : World) (hl : l.length ≤ 1000000) :
    Calls Try.prog 15 #[.string ⟨l.toArray⟩] w fun e w' => e = .returned (.bool (isName l)) ∧ Below w.heap.size w w' := by
  have hB := Blk.new w 42 #[.string ⟨l.toArray⟩, .bool false]
  have HC := Lib.hid (name8_any w.heap.size (l, false) _ hB hl)
  have HN : Hid (isName l = (!((false || !nmB (l.takeWhile goB)) || !(l.dropWhile goB).isEmpty))) := Lib.hid (by
    unfold isName
    rcases span_cases goB l with ⟨h1, h2, h3⟩ | ⟨a, c, t, h1, h2, h3, h4, h5⟩
    · rw [h1, h2, h3]
      simp
    · rw [h4, h5, h1]
      simp [h3])
  clear hB hl
  unfold cName at HC
  simp only at HC
  generalize nmB (l.takeWhile goB) = t at *
  generalize l.takeWhile goB = n at *
  generalize l.dropWhile goB = r at *
  cases t with
  | false =>
    go_enter Try.func15, Try.ntmps15
    go_wp2_with fail
    (with_reducible refine (HC.out).mono ?_)
    rintro e w2 ⟨rfl, h1, h2⟩
    have c0 := Blk.cell h1 0
    have c1 := Blk.cell h1 1
    simp at c0 c1
    clear h1
    go_wp2_with fail
    go_ret
    exact ⟨by rw [HN.out]; rfl, below_only (bel_alloc (Below.refl _ _) _) h2 (Nat.le_refl _) (by simp)⟩
  | true =>
    have HV : Hid (isName l = r.isEmpty) := Lib.hid (by rw [HN.out]; simp)
    clear HN
    cases r with
    | nil =>
      go_enter Try.func15, Try.ntmps15
      go_wp2_with fail
      (with_reducible refine (HC.out).mono ?_)
      rintro e w2 ⟨rfl, h1, h2⟩
      have c0 := Blk.cell h1 0
      have c1 := Blk.cell h1 1
      simp at c0 c1
      clear h1
      go_wp2_with fail
      go_ret
      exact ⟨by rw [HV.out]; rfl, below_only (bel_alloc (Below.refl _ _) _) h2 (Nat.le_refl _) (by simp)⟩
    | cons c r =>
      have hne : ((⟨(c :: r).toArray⟩ : ByteArray) == ⟨#[]⟩) = false := rfl
      go_enter Try.func15, Try.ntmps15
      go_wp2_with fail
      (with_reducible refine (HC.out).mono ?_)
      rintro e w2 ⟨rfl, h1, h2⟩
      have c0 := Blk.cell h1 0
      have c1 := Blk.cell h1 1
      simp only [List.getElem?_toArray, List.getElem?_cons_zero, List.getElem?_cons_succ] at c0 c1
      simp at c1
      clear h1
      go_wp2_with fail
      go_ret
      exact ⟨by rw [HV.out]; rfl, below_only (bel_alloc (Below.refl _ _) _) h2 (Nat.le_refl _) (by simp)⟩
end Go.Proofs.Ytnagckdaleafdaa
