/-
  How large an element is: the document's count; what is told of the texts.
  Contracts of utf at texts as lists; what is clean stays so; lengths; a short text.
  A field of an element.
-/
import Derived.Test.YtjmmgekildlckaaRsB
import Derived.Test.YtjmmgekildlckaaUt2
section
namespace Go.Proofs.Ytjmmgekildlckaa
open Go.ChangeShapes Go.WideShapes Go.ChangeAt Go.Deep
open Go.RowKit Go.Nst
set_option maxRecDepth 100000
set_option linter.unusedVariables false
set_option linter.unusedSimpArgs false

theorem elm_ind {p : Elm → Prop} (h : ∀ nm ats tx l, (∀ k ∈ l, p k) → p (.mk nm ats tx l)) (e : Elm) : p e := by
  have key : ∀ (n : Nat) (e : Elm), SizeOf.sizeOf e ≤ n → p e := by
    intro n
    induction n with
    | zero => intro e he; cases e; simp at he
    | succ n ih =>
      intro e he
      obtain ⟨nm, ats, tx, l⟩ := e
      refine h nm ats tx l fun k hk => ih k ?_
      have := List.sizeOf_lt_of_mem hk
      simp at he
      omega
  exact key _ e (Nat.le_refl _)
def atsum : List Xat → Int
  | [] => 0
  | a :: r => a.nm.length + a.vl.length + atsum r
theorem atsum_app : ∀ (l m : List Xat), atsum (l ++ m) = atsum l + atsum m
  | [], m => by simp [atsum]
  | a :: r, m => by simp only [List.cons_append, atsum, atsum_app r m]; omega
theorem atsum_pos : ∀ l : List Xat, 0 ≤ atsum l
  | [] => by simp [atsum]
  | a :: r => by have := atsum_pos r; simp only [atsum]; omega
theorem atsum_mem : ∀ {l : List Xat} {a : Xat}, a ∈ l → (a.nm.length : Int) ≤ atsum l ∧ (a.vl.length : Int) ≤ atsum l
  | x :: r, a, h => by
    have h0 := atsum_pos r
    rcases List.mem_cons.1 h with rfl | h
    · simp only [atsum]; omega
    · have := atsum_mem h; simp only [atsum]; omega
theorem atsum_le : ∀ (l : List Xat), (∀ a ∈ l, a.nm.length ≤ 1100000 ∧ a.vl.length ≤ 1100000) → atsum l ≤ l.length * 2200000
  | [], _ => by simp [atsum]
  | a :: r, h => by
    have h1 := atsum_le r fun x hx => h x (List.mem_cons_of_mem _ hx)
    have h2 := h a (by simp)
    simp only [atsum, List.length_cons]
    omega
mutual
def cntE : Elm → Nat → Int → Int
  | .mk nm ats tx ks, d, m => cntL ks d (m - 1 - (tx.length : Int) - (nm.length : Int) - (ats.length : Int) - atsum ats)
def cntL : List Elm → Nat → Int → Int
  | [], _, m => m
  | k :: ks, d, m => if 0 < m ∧ d < 40 then cntL ks d (cntE k (d + 1) m) else m
end
/-- the texts within, so deep, are short -/
def SmE : Nat → Elm → Prop
  | 0, _ => True
  | n + 1, e => e.nm.length ≤ 6000 ∧ e.tx.length ≤ 6000 ∧ (∀ a ∈ e.ats, a.nm.length ≤ 6000 ∧ a.vl.length ≤ 6000) ∧ ∀ k ∈ e.kids, SmE n k
theorem cntL_stop : ∀ (l : List Elm) (d : Nat) (n : Int), ¬ (0 < n ∧ d < 40) → cntL l d n = n
  | [], d, n, _ => by simp [cntL]
  | k :: ks, d, n, h => by simp only [cntL]; rw [if_neg h]
theorem cnt_mono (q : Elm) : ∀ (d : Nat) (n : Int), cntE q d n ≤ n - 1 := by
  refine elm_ind (p := fun q => ∀ (d : Nat) (n : Int), cntE q d n ≤ n - 1) ?_ q
  intro nm ats tx l ih d m
  simp only [cntE]
  have hL : ∀ (l : List Elm), (∀ k ∈ l, ∀ (d : Nat) (n : Int), cntE k d n ≤ n - 1) → ∀ m, cntL l d m ≤ m := by
    intro l
    induction l with
    | nil => intro _ m; simp [cntL]
    | cons x xs ih2 =>
      intro hl m
      simp only [cntL]
      split
      · have h1 := ih2 (fun k hk => hl k (List.mem_cons_of_mem _ hk)) (cntE x (d + 1) m)
        have h2 := hl x (by simp) (d + 1) m
        omega
      · omega
  have := hL l ih (m - 1 - (tx.length : Int) - (nm.length : Int) - (ats.length : Int) - atsum ats)
  have := atsum_pos ats
  omega
theorem cntL_mono : ∀ (l : List Elm) (d : Nat) (m : Int), cntL l d m ≤ m
  | [], d, m => by simp [cntL]
  | k :: ks, d, m => by
    simp only [cntL]
    split
    · have h1 := cntL_mono ks d (cntE k (d + 1) m)
      have h2 := cnt_mono k (d + 1) m
      omega
    · omega
/-- where more than nothing is left, all texts so deep are short -/
theorem cnt_pos : ∀ (f : Nat) (q : Elm) (d : Nat) (n : Int), d + f ≤ 40 → n ≤ 6000 → 0 < cntE q d n → SmE f q
  | 0, _, _, _, _, _, _ => trivial
  | f + 1, .mk nm ats tx l, d, n, hd, hn, h => by
    simp only [cntE] at h
    have h0 := atsum_pos ats
    have h1 := cntL_mono l d (n - 1 - (tx.length : Int) - (nm.length : Int) - (ats.length : Int) - atsum ats)
    have hL : ∀ (l : List Elm) (n : Int), n ≤ 6000 → 0 < cntL l d n → ∀ k ∈ l, SmE f k := by
      intro l
      induction l with
      | nil => intro n _ _ k hk; cases hk
      | cons x xs ih2 =>
        intro n hn h k hk
        simp only [cntL] at h
        by_cases hpos : 0 < n
        · rw [if_pos ⟨hpos, by omega⟩] at h
          have h3 := cntL_mono xs d (cntE x (d + 1) n)
          have h4 := cnt_mono x (d + 1) n
          rcases List.mem_cons.1 hk with rfl | hk
          · exact cnt_pos f k (d + 1) n (by omega) hn (by omega)
          · exact ih2 _ (by omega) h k hk
        · rw [if_neg (by omega)] at h
          exact absurd h hpos
    refine ⟨by show nm.length ≤ 6000; omega, by show tx.length ≤ 6000; omega, fun a ha => ?_, hL l _ (by omega) h⟩
    have := atsum_mem (show a ∈ ats from ha)
    omega
theorem cntL_snoc : ∀ (l : List Elm) (k : Elm) (d : Nat) (m : Int), 0 < cntL l d m → d < 40 → cntL (l ++ [k]) d m = cntE k (d + 1) (cntL l d m)
  | [], k, d, m, h, hd => by
    simp only [cntL] at h
    simp only [List.nil_append, cntL]
    rw [if_pos ⟨h, hd⟩]
  | x :: xs, k, d, m, h, hd => by
    by_cases h2 : 0 < m ∧ d < 40
    · have e1 : cntL (x :: xs) d m = cntL xs d (cntE x (d + 1) m) := by simp only [cntL]; rw [if_pos h2]
      have e2 : cntL (x :: xs ++ [k]) d m = cntL (xs ++ [k]) d (cntE x (d + 1) m) := by simp only [List.cons_append, cntL]; rw [if_pos h2]
      rw [e1] at h ⊢
      rw [e2]
      exact cntL_snoc xs k d _ h hd
    · have e1 : cntL (x :: xs) d m = m := cntL_stop _ _ _ h2
      rw [e1] at h
      exact absurd ⟨h, hd⟩ h2
theorem cntL_stays : ∀ (l : List Elm) (k d : Nat) (m : Int), ¬ (0 < cntL (l.take k) d m ∧ d < 40) → cntL l d m = cntL (l.take k) d m
  | [], k, d, m, _ => by simp
  | x :: xs, 0, d, m, h => by
    simp only [List.take_zero, cntL] at h
    rw [cntL_stop _ _ _ h, List.take_zero]
    simp only [cntL]
  | x :: xs, k + 1, d, m, h => by
    by_cases h2 : 0 < m ∧ d < 40
    · simp only [List.take_succ_cons, cntL] at h ⊢
      rw [if_pos h2] at h ⊢
      rw [if_pos h2]
      exact cntL_stays xs k d _ h
    · rw [cntL_stop _ _ _ h2, cntL_stop _ _ _ h2]
def cntP (e : Elm) : Prop := ∀ (A B : Option Addr) (c d' d : Nat) (m : Int) (w : World) (S : Nat → Prop), d ≤ 40 → 0 ≤ m → m ≤ 6000 → EmF w S e A c B d' → Calls Try.prog 9 #[.agg (emV e A e.ats.length c B e.kids.length d'), .int .i64 (d : Int), .int .i64 m] w fun e' w' => e' = .returned (.int .i64 (cntE e d m)) ∧ Below w.heap.size w w'
set_option maxHeartbeats 4000000 in
theorem count9_any (q : Elm) : cntP q := by
  refine elm_ind (p := cntP) ?_ q
  intro nm ats tx l ih A B c d' d m w S hd hm0 hm1 he
  obtain ⟨h1, h2, ⟨hc1, hc2⟩, ⟨hd1, hd2⟩, ⟨hs1, hs2⟩, h6, h7, hB⟩ := he
  simp only [Elm.nm, Elm.ats, Elm.tx, Elm.kids, emV] at *
  have HK := Lib.hid hB
  have HA := Lib.hid h7
  have HAS := Lib.hid h6
  have HI := Lib.hid ih
  have HD : Hid (cntE (.mk nm ats tx l) d m = cntL l d (m - 1 - (tx.length : Int) - (nm.length : Int) - (ats.length : Int) - atsum ats)) := Lib.hid (by simp only [cntE])
  clear h6 h7 hB ih
  obtain ⟨bx, hbx⟩ : ∃ bx : Array Value, bx = #[.string ⟨nm.toArray⟩, .slice A ats.length c, .string ⟨tx.toArray⟩, .slice B l.length d'] := ⟨_, rfl⟩
  have HBX := Lib.hid hbx
  clear hbx
  have B0 := Lib.hid (bel_alloc (Below.refl w.heap.size w) (.cells bx 25))
  have X0 := Lib.hid (Blk.new w 25 bx)
  go_enter Try.func9, Try.ntmps9
  go_wp2_with fail
  go_loopw [2, 7] (fun v i wr => ∃ k : Nat, k ≤ ats.length ∧ i = .int .i64 k ∧ v = .int .i64 (m - 1 - (tx.length : Int) - (nm.length : Int) - (ats.length : Int) - atsum (ats.take k)) ∧ Hid (Below (w.heap.size + 1) (w.alloc (.cells bx 25)) wr)) (fun _ i _ => ats.length - (intOf i).toNat)
  case atStart => exact ⟨0, Nat.zero_le _, rfl, by simp [atsum], Lib.hid (by rw [HBX.out]; exact Below.refl _ _)⟩
  case round =>
    obtain ⟨k, hkl, rfl, rfl, HB⟩ := hrel
    have hbw : Below w.heap.size w wr := B0.out.trans (HB.out.mono (by omega))
    have X1 := X0.out.below HB.out (Nat.lt_succ_self _)
    have x1 := X1.cell 1
    have x3 := X1.cell 3
    rw [HBX.out] at x1 x3
    simp at x1 x3
    have HX1 := Lib.hid X1
    have HBW := Lib.hid hbw
    clear X1 hbw
    have hz : w.heap.size + 1 ≤ wr.heap.size := by
      have := HB.out.size
      simpa using this
    by_cases hlt : k < ats.length
    · obtain ⟨a, b, off, HG, rfl, hS, hbs, n1, n2, f0, f1⟩ := xa_at (HA.out.bel xaP HBW.out) hlt
      have hlt' : decide (k < ats.length) = true := by simpa using hlt
      have hki : (k : Int) < (ats.length : Int) := by omega
      have hle := atsum_le (ats.take k) fun x hx => HAS.out x (List.mem_of_mem_take hx)
      have hps := atsum_pos (ats.take k)
      have hal := HAS.out a (List.mem_of_getElem? HG.out)
      have hlk : (ats.take k).length = k := by rw [List.length_take]; omega
      rw [hlk] at hle
      have HN : Hid (atsum (ats.take (k + 1)) = atsum (ats.take k) + ((a.nm.length : Int) + (a.vl.length : Int))) := Lib.hid (by rw [List.take_add_one, HG.out, atsum_app]; simp [atsum])
      clear hS HX1
      generalize atsum (ats.take k) = z at *
      have w1 : IntKind.i64.wrap (m - 1 - (tx.length : Int) - (nm.length : Int) - (ats.length : Int) - z - (a.nm.length : Int)) = m - 1 - (tx.length : Int) - (nm.length : Int) - (ats.length : Int) - z - (a.nm.length : Int) := IntWalk.i64_in _ (by omega)
      have w2 : IntKind.i64.wrap (m - 1 - (tx.length : Int) - (nm.length : Int) - (ats.length : Int) - z - (a.nm.length : Int) - (a.vl.length : Int)) = m - 1 - (tx.length : Int) - (nm.length : Int) - (ats.length : Int) - z - (a.nm.length : Int) - (a.vl.length : Int) := IntWalk.i64_in _ (by omega)
      go_wp2_with (fail)
      go_quiet (fail)
      go_wp2_with fail
      go_roundw
      case rel => exact ⟨k + 1, by omega, by go_num, by rw [HN.out]; first | rfl | (congr 1; omega), Lib.hid (Nst.below_drewN HB.out _)⟩
      case measure => simp [intOf] <;> omega
    · obtain rfl : k = ats.length := by omega
      have hlt' : decide (ats.length < ats.length) = false := by simp
      have hle := atsum_le ats HAS.out
      have hps := atsum_pos ats
      rw [List.take_length]
      have hmm : m - 1 - (tx.length : Int) - (nm.length : Int) - (ats.length : Int) - atsum ats ≤ 5999 := by omega
      generalize m - 1 - (tx.length : Int) - (nm.length : Int) - (ats.length : Int) - atsum ats = m0 at *
      obtain ⟨wo, hwo⟩ : ∃ wo : World, wo = wr := ⟨_, rfl⟩
      subst hwo
      clear x3 HX1
      go_wp2_with fail
      clear x1
      go_loopw [2, 8] (fun v i wr => ∃ k : Nat, k ≤ l.length ∧ i = .int .i64 k ∧ v = .int .i64 (cntL (l.take k) d m0) ∧ Hid (Below (w.heap.size + 1) (w.alloc (.cells bx 25)) wr)) (fun _ i _ => l.length - (intOf i).toNat)
      case atStart => exact ⟨0, Nat.zero_le _, rfl, by simp [cntL], HB⟩
      case round =>
        obtain ⟨k, hkl, rfl, rfl, HB2⟩ := hrel
        have hbw : Below w.heap.size w wr := B0.out.trans (HB2.out.mono (by omega))
        have X1 := X0.out.below HB2.out (Nat.lt_succ_self _)
        have x3 := X1.cell 3
        rw [HBX.out] at x3
        simp at x3
        have HBW2 := Lib.hid hbw
        clear X1 hbw
        by_cases hlt : k < l.length
        · have hlt' : decide (k < l.length) = true := by simpa using hlt
          have hki : (k : Int) < (l.length : Int) := by omega
          by_cases hgo : 0 < cntL (l.take k) d m0 ∧ d < 40
          · obtain ⟨q, A1, c1, B1, d1, b, off, HG, rfl, hS, hbs, HP, HF, f0, f1, f2, f3⟩ := em_at (HK.out.bel emP HBW2.out) hlt
            have hsn : l.take (k + 1) = l.take k ++ [q] := by rw [List.take_add_one, HG.out]; rfl
            have hd2 : cntL (l.take (k + 1)) d m0 = cntE q (d + 1) (cntL (l.take k) d m0) := by rw [hsn, cntL_snoc _ _ _ _ hgo.1 hgo.2]
            have hm3 := cntL_mono (l.take k) d m0
            have HC := Lib.hid (HI.out q (List.mem_of_getElem? HG.out) A1 B1 c1 d1 (d + 1) (cntL (l.take k) d m0) wr S (by omega) (by omega) (by omega) HF.out)
            rw [show (((d + 1 : Nat)) : Int) = (d : Int) + 1 by omega] at HC
            have HD2 := Lib.hid hd2
            obtain ⟨hg1, hg2⟩ := hgo
            clear hd2 hsn HP HF hS
            simp only [emV] at HC
            have hp : decide (0 < cntL (l.take k) d m0) = true := by simpa using hg1
            have hd7 : decide ((d : Int) < 40) = true := by simp; omega
            generalize cntL (l.take k) d m0 = mm at *
            go_wp2_with fail
            (with_reducible refine (HC.out).mono ?_)
            rintro e w2 ⟨rfl, hb2⟩
            go_wp2_with fail
            go_roundw
            case rel => exact ⟨k + 1, by omega, by go_num, by rw [HD2.out], Lib.hid (HB2.out.trans (hb2.mono (by have := HB2.out.size; simpa using this)))⟩
            case measure => simp [intOf] <;> omega
          · have HST := Lib.hid (cntL_stays l k d m0 hgo)
            by_cases hp : 0 < cntL (l.take k) d m0
            · have hp' : decide (0 < cntL (l.take k) d m0) = true := by simpa using hp
              have hd7 : decide ((d : Int) < 40) = false := by simp; omega
              generalize cntL (l.take k) d m0 = mm at *
              go_wp2_with fail
              go_ret
              exact ⟨by rw [HD.out, HST.out]; rfl, HBW2.out⟩
            · have hp' : decide (0 < cntL (l.take k) d m0) = false := by simpa using hp
              generalize cntL (l.take k) d m0 = mm at *
              go_wp2_with fail
              go_ret
              exact ⟨by rw [HD.out, HST.out]; rfl, HBW2.out⟩
        · obtain rfl : k = l.length := by omega
          have hlt' : decide (l.length < l.length) = false := by simp
          go_wp2_with fail
          go_ret
          exact ⟨by rw [HD.out, List.take_length]; rfl, HBW2.out⟩
/-- not too large: the texts are short -/
theorem Large9_any (e : Elm) (A B : Option Addr) (c d : Nat) (w : World) (S : Nat → Prop) (he : EmF w S e A c B d) :
    Calls Try.prog 4 #[.agg (emV e A e.ats.length c B e.kids.length d)] w fun e' w' => (∃ b, e' = .returned (.bool b) ∧ (b = false → SmE 8 e)) ∧ Below w.heap.size w w' := by
  have B0 := bel_alloc (Below.refl w.heap.size w) (.cells (emV e A e.ats.length c B e.kids.length d) 25)
  have HC := Lib.hid (show Calls Try.prog 9 #[.agg (emV e A e.ats.length c B e.kids.length d), .int .i64 1, .int .i64 6000] _ _ from count9_any e A B c d 1 6000 _ S (by omega) (by omega) (by omega) (em_bel he B0))
  have HP : Hid (decide (cntE e 1 6000 ≤ 0) = false → SmE 8 e) := Lib.hid (fun h => cnt_pos 8 e 1 6000 (by omega) (by omega) (Int.not_le.1 (of_decide_eq_false h)))
  obtain ⟨hc1, hc2⟩ := he.hc
  obtain ⟨hd1, hd2⟩ := he.hd
  clear he
  generalize cntE e 1 6000 = z at *
  simp only [emV] at *
  go_enter Try.func4, Try.ntmps4
  go_wp2_with fail
  (with_reducible refine (HC.out).mono ?_)
  rintro e' w2 ⟨rfl, hb2⟩
  go_wp2_with fail
  go_ret
  exact ⟨⟨_, rfl, HP.out⟩, bel_step B0 hb2⟩
end Go.Proofs.Ytjmmgekildlckaa
end
section
namespace Go.Proofs.Ytjmmgekildlckaa
open Go.RowKit Go.Nst
set_option maxRecDepth 100000
set_option linter.unusedVariables false
set_option linter.unusedSimpArgs false

theorem clean_l (l : List UInt8) (w : World) (hl : l.length ≤ 1000000) : Calls Try.prog 25 #[.string ⟨l.toArray⟩] w (RetS w (cleanT l)) := by
  have := clean_any ⟨l.toArray⟩ w (by rw [size_of]; omega)
  rwa [bl_of] at this
theorem cut_l (l : List UInt8) (n : Int) (w : World) (hl : l.length ≤ 1000000) (h0 : -9223372036854775808 ≤ n) (h1 : n ≤ 9223372036854775807) : Calls Try.prog 26 #[.string ⟨l.toArray⟩, .int .i64 n] w (RetS w (cutT l n)) := by
  have := cut_any ⟨l.toArray⟩ n w (by rw [size_of]; omega) h0 h1
  rwa [bl_of] at this
theorem cleanT_again (l : List UInt8) : cleanT (cleanT l) = cleanT l := by
  unfold cleanT
  rw [runes_put_ok _ (clean_ok _ (runes_ok l)), clean_again]
theorem foldT_again (l : List UInt8) : foldT (foldT l) = foldT l := by
  unfold foldT
  rw [runes_put_ok _ (foldC_ok _ (runes_ok l)), List.map_map]
  congr 2
  funext c
  exact foldC_again c
theorem foldT_count (l : List UInt8) : (runesL (foldT l)).length = (runesL l).length := by
  rw [← runesI_len, ← runesI_len]
  unfold foldT
  rw [runes_put_ok _ (foldC_ok _ (runes_ok l)), List.length_map]
theorem cleanT_len (l : List UInt8) : (cleanT l).length ≤ 8 * l.length := by
  unfold cleanT
  have h1 := putR_len (cleanR (runesI l))
  have h2 := cleanF_len (runesI l)
  have h3 := runesI_le l
  have h4 : (cleanR (runesI l)).length = (cleanF (runesI l)).1.length := rfl
  omega
theorem foldT_len (l : List UInt8) : (foldT l).length ≤ 4 * l.length := by
  unfold foldT
  have h1 := putR_len ((runesI l).map foldC)
  rw [List.length_map] at h1
  have h3 := runesI_le l
  omega

theorem cutT_len (l : List UInt8) (n : Int) : (cutT l n).length ≤ l.length := by unfold cutT; rw [List.length_take]; omega
def shortT (l : List UInt8) (n : Int) : List UInt8 := cleanT (cutT (cleanT l) n)
theorem enc_pos (r : Int) : 1 ≤ (Lib.encodeRune r).length := by
  have := enc_ne r []
  rw [List.append_nil] at this
  exact List.length_pos_iff.2 this
theorem clean_short (l : List Int) : (putR (cleanF l).1).length + (if (cleanF l).2 then 1 else 0) ≤ (putR l).length := by
  suffices ∀ (n : Nat) (l : List Int), l.length = n → (putR (cleanF l).1).length + (if (cleanF l).2 then 1 else 0) ≤ (putR l).length from this _ l rfl
  intro n
  induction n with
  | zero => intro l h; obtain rfl : l = [] := List.eq_nil_of_length_eq_zero h; simp [cleanF, putR]
  | succ n ih =>
    intro l h
    have hne : l ≠ [] := by intro e; subst e; simp at h
    obtain ⟨t, c, rfl⟩ : ∃ t c, l = t ++ [c] := ⟨l.dropLast, l.getLast hne, (List.dropLast_concat_getLast hne).symm⟩
    have h1 := ih t (by simpa using h)
    have h2 := enc_pos c
    have h3 : (Lib.encodeRune 32).length = 1 := by decide
    rw [cleanF_snoc, putR_snoc, List.length_append]
    generalize cleanF t = st at *
    obtain ⟨out, wait⟩ := st
    simp only at h1
    unfold cleanS
    simp only
    by_cases b1 : blankB c = true
    · rw [if_pos b1]
      simp only
      have : (if decide (0 < out.length) = true then 1 else 0) ≤ 1 := by split <;> omega
      omega
    · rw [if_neg b1]
      by_cases b2 : ctrlB c = true
      · rw [if_pos b2]
        simp only
        omega
      · rw [if_neg b2]
        cases wait with
        | false =>
          rw [if_neg (by decide)]
          simp only [putR_snoc, List.length_append, Bool.false_eq_true, if_false] at h1 ⊢
          omega
        | true =>
          rw [if_pos rfl]
          simp only [putR_snoc, List.length_append, Bool.false_eq_true, if_false, if_true] at h1 ⊢
          omega
theorem cut_put (n : Int) : ∀ (rs : List Int) (m : Int), ∃ k, cutT (putR rs) m = putR (rs.take k)
  | [], m => ⟨0, by simp [cutT, putR]⟩
  | r :: t, m => by
    obtain ⟨k, hk⟩ := cut_put n t (m - (Lib.encodeRune r).length)
    unfold cutT at hk ⊢
    rw [putR_cons, cutL_step _ _ (enc_ne _ _), first_enc]
    simp only [List.drop_left]
    by_cases h : (((Lib.encodeRune r).length : Nat) : Int) ≤ m
    · rw [if_pos h]
      refine ⟨k + 1, ?_⟩
      rw [List.take_succ_cons, putR_cons, ← hk, List.take_append]
      simp
      rw [List.take_of_length_le (by omega)]
    · rw [if_neg h]
      exact ⟨0, by simp [putR]⟩
theorem shortT_len (l : List UInt8) (n : Int) (hn : 0 ≤ n) : ((shortT l n).length : Int) ≤ n := by
  unfold shortT
  have h0 : Okr (cleanR (runesI l)) := clean_ok _ (runes_ok l)
  obtain ⟨k, hk⟩ := cut_put 0 (cleanR (runesI l)) n
  have h1 : ((cutT (cleanT l) n).length : Int) ≤ n := by
    unfold cutT
    have := (cutL_le (cleanT l) n).2.1 hn
    rw [List.length_take]
    omega
  have h2 : cutT (cleanT l) n = putR ((cleanR (runesI l)).take k) := hk
  have h3 : Okr ((cleanR (runesI l)).take k) := fun r hr => h0 r (List.mem_of_mem_take hr)
  have h4 : cleanT (cutT (cleanT l) n) = putR (cleanR ((cleanR (runesI l)).take k)) := by rw [h2]; unfold cleanT; rw [runes_put_ok _ h3]
  have h5 := clean_short ((cleanR (runesI l)).take k)
  rw [h4]
  rw [h2] at h1
  have h6 : (putR (cleanR ((cleanR (runesI l)).take k))).length = (putR (cleanF ((cleanR (runesI l)).take k)).1).length := rfl
  omega
end Go.Proofs.Ytjmmgekildlckaa
end
section
namespace Go.Proofs.Ytjmmgekildlckaa
open Go.ChangeShapes Go.WideShapes Go.ChangeAt Go.Deep
open Go.RowKit Go.Nst
set_option maxRecDepth 100000
set_option linter.unusedVariables false
set_option linter.unusedSimpArgs false

def fieldD (e : Elm) (s : List UInt8) (n : Int) : List UInt8 := shortT (kidD e s).tx n
theorem kid_sm {n : Nat} {e : Elm} (h : SmE (n + 1) e) (s : List UInt8) : SmE n (kidD e s) := by
  unfold kidD
  cases hk : kidsD e s with
  | nil =>
    cases n with
    | zero => trivial
    | succ n => exact ⟨by simp [Elm.zero, Elm.nm], by simp [Elm.zero, Elm.tx], by simp [Elm.zero, Elm.ats], by simp [Elm.zero, Elm.kids]⟩
  | cons q r =>
    have hm : q ∈ kidsD e s := by rw [hk]; simp
    exact h.2.2.2 q (List.mem_filter.1 hm).1
theorem kid_tx {n : Nat} {e : Elm} (h : SmE (n + 2) e) (s : List UInt8) : (kidD e s).tx.length ≤ 6000 := (kid_sm h s).2.1
theorem field10_any (e : Elm) (A B : Option Addr) (c d : Nat) (s : List UInt8) (n : Int) (w : World) (S : Nat → Prop) (he : EmF w S e A c B d) (hs : (kidD e s).tx.length ≤ 6000) (h0 : -9223372036854775808 ≤ n) (h1 : n ≤ 9223372036854775807) :
    Calls Try.prog 15 #[.agg (emV e A e.ats.length c B e.kids.length d), .string ⟨s.toArray⟩, .int .i64 n] w (RetS w (fieldD e s n)) := by
  have B0 := Lib.hid (bel_alloc (Below.refl w.heap.size w) (.cells (emV e A e.ats.length c B e.kids.length d) 25))
  have HC := Lib.hid (kid9_any e A B c d s _ S (em_bel he B0.out))
  have H1 := Lib.hid (fun W => clean_l (kidD e s).tx W (by omega))
  have hc1 := cleanT_len (kidD e s).tx
  have H2 := Lib.hid (fun W => cut_l (cleanT (kidD e s).tx) n W (by omega) h0 h1)
  have hc2 := cutT_len (cleanT (kidD e s).tx) n
  have H3 := Lib.hid (fun W => clean_l (cutT (cleanT (kidD e s).tx) n) W (by omega))
  have HV : Hid (fieldD e s n = cleanT (cutT (cleanT (kidD e s).tx) n)) := rfl
  clear hc1 hc2
  obtain ⟨hca, hcb⟩ := he.hc
  obtain ⟨hda, hdb⟩ := he.hd
  clear he
  generalize kidD e s = k at *
  generalize hasD e s = hb at *
  generalize fieldD e s n = out at *
  simp only [emV] at *
  go_enter Try.func15, Try.ntmps15
  go_wp2_with fail
  (with_reducible refine (HC.out).mono ?_)
  rintro e' w1 ⟨A1, c1, B1, d1, rfl, hF, hb1⟩
  simp only [emV]
  have B1' := Lib.hid (bel_step B0.out hb1)
  clear hF hb1 HC B0
  go_wp2_with fail
  (with_reducible refine (H1.out _).mono ?_)
  rintro e' w2 ⟨rfl, hb2⟩
  have B2' := Lib.hid (bel_step (bel_alloc B1'.out _) hb2)
  clear hb2 B1'
  go_wp2_with fail
  (with_reducible refine (H2.out _).mono ?_)
  rintro e' w3 ⟨rfl, hb3⟩
  have B3' := Lib.hid (bel_step B2'.out hb3)
  clear hb3 B2'
  go_wp2_with fail
  (with_reducible refine (H3.out _).mono ?_)
  rintro e' w4 ⟨rfl, hb4⟩
  go_wp2_with fail
  go_ret
  rw [HV.out]
  exact ⟨rfl, bel_step B3'.out hb4⟩
end Go.Proofs.Ytjmmgekildlckaa
end
