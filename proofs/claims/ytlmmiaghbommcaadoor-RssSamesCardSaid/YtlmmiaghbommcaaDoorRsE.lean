/-
  The date of an element: the code's and the document's; the first text that is not empty.
-/
import Derived.Test.YtlmmiaghbommcaaDoorRsC
import Derived.Test.YtlmmiaghbommcaaDoorDtV
import Derived.Test.YtlmmiaghbommcaaDoorDtO
import Derived.Test.YtlmmiaghbommcaaDoorDtH
import Derived.Test.YtlmmiaghbommcaaDoorStl
import Derived.Test.YtlmmiaghbommcaaDoorTak
import Derived.Deep.DeepCutAuto
import Derived.Deep.CutBlock
namespace Go.Proofs.YtlmmiaghbommcaaDoor
open Go.ChangeShapes Go.WideShapes Go.ChangeAt Go.Deep
open Go.RowKit Go.Nst
set_option maxRecDepth 100000
set_option linter.unusedVariables false
set_option linter.unusedSimpArgs false

theorem laterE {w : World} {B : Nat} {p : Addr} {u : Value} (h : w.cell? p = some u) (hp : p.block < B) : ∀ W, Below B w W → W.cell? p = some u := fun W hW => (hW.cell hp).trans h
/-- the first text that is not empty -/
def firstNe : List (List UInt8) → List UInt8
  | [] => []
  | a :: r => if a = [] then firstNe r else a
theorem firstNe_at {L : List (List UInt8)} {k : Nat} {x : List UInt8} (hg : L[k]? = some x) : firstNe (L.drop k) = if x = [] then firstNe (L.drop (k + 1)) else x := by
  obtain ⟨hl, hv⟩ := List.getElem?_eq_some_iff.1 hg
  rw [List.drop_eq_getElem_cons hl, hv]
  simp only [firstNe]
theorem ne_b {x : List UInt8} (h : ¬ x = []) : ((⟨x.toArray⟩ : ByteArray) == ⟨#[]⟩) = false ∧ x.isEmpty = false := by
  cases x with
  | nil => exact absurd rfl h
  | cons a b => exact ⟨rfl, rfl⟩
theorem orS_any (A : Option Addr) (n c : Nat) (L : List (List UInt8)) (w : World) (hL : Ss w A n L) (hn : n ≤ 1000) :
    Calls Tryd.prog 19 #[.slice A n c] w fun e w' => e = .returned (.string ⟨(firstNe L).toArray⟩) ∧ w' = w := by
  have HL := Lib.hid hL
  have HLN := Lib.hid hL.len
  clear hL
  go_enter Tryd.func19, Tryd.ntmps19
  go_wp2_with fail
  go_loopw [8] (fun i wr => ∃ k : Nat, k ≤ n ∧ i = .int .i64 k ∧ Hid (firstNe L = firstNe (L.drop k)) ∧ wr = w) (fun i _ => n - (intOf i).toNat)
  case atStart => exact ⟨0, Nat.zero_le _, rfl, Lib.hid (by simp), rfl⟩
  case round =>
    obtain ⟨k, hk, rfl, HF, rfl⟩ := hrel
    by_cases hlt : k < n
    · obtain ⟨x, b, off, rfl, HG, hbs, f0⟩ := HL.out.at hlt
      have hlt' : decide (k < n) = true := by simpa using hlt
      have hki : (k : Int) < (n : Int) := by omega
      have HN := Lib.hid (firstNe_at HG.out)
      by_cases hx : x = []
      · subst hx
        have HF2 : Hid (firstNe L = firstNe (L.drop (k + 1))) := Lib.hid (by rw [HF.out, HN.out, if_pos rfl])
        clear HF HN
        go_wp2_with fail
        go_roundw
        case rel => exact ⟨k + 1, by omega, by go_num, HF2, by first | trivial | rfl⟩
        case measure => simp [intOf] <;> omega
      · have HF2 : Hid (firstNe L = x) := Lib.hid (by rw [HF.out, HN.out, if_neg hx])
        obtain ⟨hx1, hx2⟩ := ne_b hx
        clear HF HN
        go_wp2_with fail
        go_ret
        exact ⟨by rw [HF2.out]; rfl, rfl⟩
    · obtain rfl : k = n := by omega
      have hlt' : decide (k < k) = false := by simp
      have HF2 : Hid (firstNe L = []) := Lib.hid (by rw [HF.out, List.drop_of_length_le (by rw [HLN.out]; exact Nat.le_refl _)]; rfl)
      clear HF
      go_wp2_with fail
      go_ret
      exact ⟨by rw [HF2.out]; rfl, rfl⟩
/-- the date of a kid -/
def mom1 (e : Elm) (s : List UInt8) : Option Int := if hasD e s = true then any4R (cleanT (kidD e s).tx) else none
/-- the first date of some kids -/
def momD (e : Elm) : List (List UInt8) → Option Int
  | [] => none
  | s :: r => match mom1 e s with
    | some n => some n
    | none => momD e r
theorem momD_some {e : Elm} {L : List (List UInt8)} {k : Nat} {x : List UInt8} (hg : L[k]? = some x) {n : Int} (h : mom1 e x = some n) : momD e (L.drop k) = some n := by
  obtain ⟨hl, hv⟩ := List.getElem?_eq_some_iff.1 hg
  rw [List.drop_eq_getElem_cons hl, hv]
  simp only [momD, h]
theorem momD_none {e : Elm} {L : List (List UInt8)} {k : Nat} {x : List UInt8} (hg : L[k]? = some x) (h : mom1 e x = none) : momD e (L.drop k) = momD e (L.drop (k + 1)) := by
  obtain ⟨hl, hv⟩ := List.getElem?_eq_some_iff.1 hg
  rw [List.drop_eq_getElem_cons hl, hv]
  simp only [momD, h]
set_option maxHeartbeats 2000000 in
theorem moment10_any (e : Elm) (A B : Option Addr) (c d : Nat) (s : List UInt8) (m : Int) (w : World) (S : Nat → Prop) (he : EmF w S e A c B d) (hs : (kidD e s).tx.length ≤ 6000) (hM : MM m w) :
    Calls Tryd.prog 20 #[.agg (emV e A e.ats.length c B e.kids.length d), .string ⟨s.toArray⟩] w fun e' w' => e' = .returned (znV (mom1 e s)) ∧ Below w.heap.size w w' := by
  have B0 := Lib.hid (bel_alloc (Below.refl w.heap.size w) (.cells (emV e A e.ats.length c B e.kids.length d) 30))
  have HC := Lib.hid (kid9_any e A B c d s _ S (em_bel he B0.out))
  have hc1 := cleanT_len (kidD e s).tx
  have H1 := Lib.hid (fun W => clean_l (kidD e s).tx W (by omega))
  have H2 := Lib.hid (fun W (h : MM m W) => any4_any (cleanT (kidD e s).tx) m W (by omega) h)
  have HM := Lib.hid hM
  rw [any_same] at H2
  have HV : Hid (mom1 e s = if hasD e s = true then any4R (cleanT (kidD e s).tx) else none) := Lib.hid rfl
  obtain ⟨hca, hcb⟩ := he.hc
  obtain ⟨hda, hdb⟩ := he.hd
  clear he hc1 hM
  generalize any4R (cleanT (kidD e s).tx) = o at *
  generalize cleanT (kidD e s).tx = t1 at *
  generalize kidD e s = k at *
  generalize hasD e s = hb at *
  generalize mom1 e s = out at *
  simp only [emV] at *
  cases hb with
  | false =>
    have hv := HV.out
    simp only [Bool.false_eq_true, if_false] at hv
    subst hv
    go_enter Tryd.func20, Tryd.ntmps20
    go_wp2_with fail
    (with_reducible refine (HC.out).mono ?_)
    rintro e' w1 ⟨A1, c1, B1, d1, rfl, hF, hb1⟩
    simp only [emV]
    have B1' := Lib.hid (bel_step B0.out hb1)
    clear hF hb1 HC B0
    go_wp2_with fail
    go_ret2
    exact ⟨rfl, bel_alloc B1'.out _⟩
  | true =>
    have hv := HV.out
    simp only [if_true] at hv
    subst hv
    go_enter Tryd.func20, Tryd.ntmps20
    go_wp2_with fail
    (with_reducible refine (HC.out).mono ?_)
    rintro e' w1 ⟨A1, c1, B1, d1, rfl, hF, hb1⟩
    simp only [emV]
    have B1' := Lib.hid (bel_step B0.out hb1)
    clear hF hb1 HC B0
    go_wp2_with fail
    (with_reducible refine (H1.out _).mono ?_)
    rintro e' w2 ⟨rfl, hb2⟩
    have B2' := Lib.hid (bel_step (bel_alloc B1'.out _) hb2)
    clear hb2 B1'
    go_wp2_with fail
    (with_reducible refine (H2.out _ (HM.out.keep B2'.out)).mono ?_)
    rintro e' w3 ⟨rfl, hb3⟩
    simp only [tOut]
    cases out with
    | none =>
      simp only [Option.getD_none, Option.isSome_none, Bool.false_eq_true, if_false]
      go_wp2_with fail
      go_ret2
      exact ⟨rfl, bel_step B2'.out hb3⟩
    | some n =>
      simp only [Option.getD_some, Option.isSome_some, if_true]
      go_wp2_with fail
      go_ret2
      exact ⟨rfl, bel_step B2'.out hb3⟩
set_option maxHeartbeats 2000000 in
theorem Moment10_any (e : Elm) (A B : Option Addr) (c d : Nat) (L : List (List UInt8)) (AL : Option Addr) (n cL : Nat) (m : Int) (w : World) (S : Nat → Prop) (he : EmF w S e A c B d) (hL : Ss w AL n L) (hsm : SmE 8 e) (hM : MM m w) (hnL : n ≤ 1000) :
    Calls Tryd.prog 10 #[.agg (emV e A e.ats.length c B e.kids.length d), .slice AL n cL] w fun e' w' => e' = .returned (znV (momD e L)) ∧ Below w.heap.size w w' := by
  obtain ⟨bx, hbx⟩ : ∃ bx : Array Value, bx = emV e A e.ats.length c B e.kids.length d := ⟨_, rfl⟩
  have HBX := Lib.hid hbx
  have B0 := Lib.hid (bel_alloc (Below.refl w.heap.size w) (.cells bx 30))
  have X0 := Lib.hid (Blk.new w 30 bx)
  have HC := Lib.hid (fun W s (h : Below w.heap.size w W) => moment10_any e A B c d s m W S (em_bel he h) (kid_tx hsm s) (hM.keep h))
  have HL := Lib.hid hL
  have HLN := Lib.hid hL.len
  obtain ⟨hca, hcb⟩ := he.hc
  obtain ⟨hda, hdb⟩ := he.hd
  rw [← hbx] at HC
  rw [← hbx]
  clear hbx he hL hM hsm
  rw [HBX.out]
  rw [HBX.out] at HC
  simp only [emV] at HC HBX ⊢
  go_enter Tryd.func10, Tryd.ntmps10
  go_wp2_with fail
  go_loopw [12] (fun i wr => ∃ k : Nat, k ≤ n ∧ i = .int .i64 k ∧ Hid (momD e L = momD e (L.drop k)) ∧ Hid (Below (w.heap.size + 1) (w.alloc (.cells bx 30)) wr)) (fun i _ => n - (intOf i).toNat)
  case atStart => exact ⟨0, Nat.zero_le _, rfl, Lib.hid (by simp), Lib.hid (by rw [HBX.out]; exact Below.refl _ _)⟩
  case round =>
    obtain ⟨k, hkn, rfl, HF, HB⟩ := hrel
    have hbw : Below w.heap.size w wr := B0.out.trans (HB.out.mono (by omega))
    have X1 := X0.out.below HB.out (Nat.lt_succ_self _)
    have x0 := X1.cell 0
    have x1 := X1.cell 1
    have x2 := X1.cell 2
    have x3 := X1.cell 3
    rw [HBX.out] at x0 x1 x2 x3
    simp at x0 x1 x2 x3
    have HBW := Lib.hid hbw
    clear X1 hbw
    by_cases hlt : k < n
    · obtain ⟨x, b, off, rfl, HG, hbs, f0⟩ := (HL.out.below HBW.out).at hlt
      have hlt' : decide (k < n) = true := by simpa using hlt
      have hki : (k : Int) < (n : Int) := by omega
      have HCx := Lib.hid (HC.out wr x HBW.out)
      have HZ : Hid (∀ w2, Below wr.heap.size wr w2 → Below (w.heap.size + 1) (w.alloc (.cells bx 30)) w2) := Lib.hid (fun w2 h2 => HB.out.trans (h2.mono (by have := HB.out.size; simpa using this)))
      clear HC
      cases hm : mom1 e x with
      | none =>
        rw [hm] at HCx
        have HF2 : Hid (momD e L = momD e (L.drop (k + 1))) := Lib.hid (by rw [HF.out, momD_none HG.out hm])
        simp only [znV, Option.getD_none, Option.isSome_none] at HCx
        clear HF hm
        go_wp2_with fail
        (with_reducible refine (HCx.out).mono ?_)
        rintro e' w2 ⟨rfl, hb2⟩
        go_wp2_with fail
        go_roundw
        case rel => exact ⟨k + 1, by omega, by go_num, HF2, Lib.hid (HZ.out _ hb2)⟩
        case measure => simp [intOf] <;> omega
      | some v =>
        rw [hm] at HCx
        have HF2 : Hid (momD e L = some v) := Lib.hid (by rw [HF.out, momD_some HG.out hm])
        simp only [znV, Option.getD_some, Option.isSome_some] at HCx
        clear HF hm
        go_wp2_with fail
        (with_reducible refine (HCx.out).mono ?_)
        rintro e' w2 ⟨rfl, hb2⟩
        go_wp2_with fail
        go_ret2
        exact ⟨by rw [HF2.out]; rfl, bel_step HBW.out hb2⟩
    · obtain rfl : k = n := by omega
      have hlt' : decide (k < k) = false := by simp
      have HF2 : Hid (momD e L = none) := Lib.hid (by rw [HF.out, List.drop_of_length_le (by rw [HLN.out]; exact Nat.le_refl _)]; rfl)
      clear HF
      go_wp2_with fail
      go_ret2
      exact ⟨by rw [HF2.out]; rfl, HBW.out⟩
end Go.Proofs.YtlmmiaghbommcaaDoor
